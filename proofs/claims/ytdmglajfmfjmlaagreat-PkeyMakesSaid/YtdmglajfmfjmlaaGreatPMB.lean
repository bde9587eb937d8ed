/- Texts of this claim, joined: what its laws use. -/
import Derived.Test.YtdmglajfmfjmlaaGreatPMA
import Derived.Test.YtdmglajfmfjmlaaGreatRows
import Derived.WalkKit
import Derived.WalkSpells
import Derived.WalkLawsBesides
import Derived.IntWalk
import Derived.Lib.Hide
import Derived.Deep.QuietTactic
import Derived.BigQuiet
import Derived.Deep.LoopGhost
import Derived.Laws.OwnMore
import Derived.Deep.Draws
import Derived.Laws.Rows
import Derived.StillTailTactics
import Derived.Maps.AppendAt
import Derived.Deep.AppendLies
import Derived.RegionTactic
import Derived.OwnWalk
import Derived.Laws.MakeOwn
import Derived.ChangeSlices
import Derived.DataElems
import Derived.Shelf.Small.Bits
import Derived.Shelf.Strconv.Itoa0
import Derived.Shelf.Bits.Mul64
import Derived.Test.YtdmglajfmfjmlaaGreatProg
import Derived.Laws.Externs
import Derived.Deep.RegionHeld3
import Derived.Lib.BitFns
import Derived.Deep.DeepCutAuto
import Derived.Deep.CutBlock
import Derived.Scope
import Derived.WalkMore
import Derived.Below
import Derived.Laws.BytesArg
import Derived.Deep.OwnRows
import Derived.Tactics
import Derived.Lib.ConvBytes
import Derived.Laws.Slices
import Derived.KernelRfl
import Derived.RowKit3
import Derived.WideLaws
import Derived.Lib.AppendStr
import Derived.ArgAppend
import Derived.Laws.IdiomCopy
import Derived.OrdersHeld
import Derived.Laws.BitsLemmas
import Derived.RowKit
import Derived.Laws.CopyOwn
namespace Go.Proofs.YtdmglajfmfjmlaaGreat
set_option linter.unusedSimpArgs false
set_option linter.unusedVariables false
set_option maxRecDepth 100000
open Go.RowKit
def I64 (x : Int) : Prop := -9223372036854775808 ≤ x ∧ x ≤ 9223372036854775807
attribute [irreducible] I64
theorem I64.lo {x : Int} (h : I64 x) : -9223372036854775808 ≤ x := by unfold I64 at h; exact h.1
theorem I64.hi {x : Int} (h : I64 x) : x ≤ 9223372036854775807 := by unfold I64 at h; exact h.2
theorem I64.mk {x : Int} (h0 : -9223372036854775808 ≤ x) (h : x ≤ 9223372036854775807) : I64 x := by unfold I64; exact ⟨h0, h⟩
def gd (xs : List Nat) (j : Nat) : Nat := (xs[j]?).getD 0
theorem gd_some {xs : List Nat} {j x : Nat} (h : xs[j]? = some x) : gd xs j = x := by unfold gd; rw [h]; rfl
theorem gd_lt {xs : List Nat} {j : Nat} (h : j < xs.length) : gd xs j = xs[j] := gd_some (List.getElem?_eq_getElem h)
theorem gd_ge {xs : List Nat} {j : Nat} (h : xs.length ≤ j) : gd xs j = 0 := by unfold gd; rw [List.getElem?_eq_none h]; rfl
theorem gd_get {xs : List Nat} {j : Nat} (h : j < xs.length) : xs[j]? = some (gd xs j) := by rw [gd_lt h]; exact List.getElem?_eq_getElem h
theorem gd_drop (xs : List Nat) (j k : Nat) : gd (xs.drop k) j = gd xs (k + j) := by unfold gd; rw [List.getElem?_drop]
theorem gd_set {xs : List Nat} {j k y : Nat} (h : k ≠ j) : gd (xs.set k y) j = gd xs j := by unfold gd; rw [List.getElem?_set_ne h]
theorem gd_set_self {xs : List Nat} {j y : Nat} (h : j < xs.length) : gd (xs.set j y) j = y := by unfold gd; rw [List.getElem?_set_self h]; rfl
theorem same_of {P : Program} {f : FuncId} {args : Array Value} {w : World} {v : Value} (h : Calls P f args w fun e w' => e = .returned v ∧ w = w') : Calls P f args w fun e w' => e = .returned v ∧ w' = w :=
  h.mono fun _ _ h => ⟨h.1, h.2.symm⟩
def Bk (w : World) (g : Nat) (t : TypeId) (cs : Array Value) : Prop := w.heap[g]? = some (.cells cs t (0, 0))
theorem Bk.lt {w : World} {g : Nat} {t : TypeId} {cs : Array Value} (h : Bk w g t cs) : g < w.heap.size := by
  rcases Nat.lt_or_ge g w.heap.size with hlt | hge
  · exact hlt
  · unfold Bk at h; rw [Array.getElem?_eq_none hge] at h; cases h
theorem Bk.cell {w : World} {g : Nat} {t : TypeId} {cs : Array Value} (h : Bk w g t cs) (i : Nat) : w.cell? ⟨g, i, none⟩ = cs[i]? := cell_of_row w g i cs t (0, 0) h
theorem Bk.frozen {w : World} {g : Nat} {t : TypeId} {cs : Array Value} (h : Bk w g t cs) (i : Nat) : w.frozen? ⟨g, i, none⟩ = false := by unfold Bk at h; simp [World.frozen?, h]
theorem Bk.new (w : World) (t : TypeId) (cs : Array Value) : Bk (w.alloc (.cells cs t)) w.heap.size t cs := heap_alloc_new w _
theorem Bk.drew {w : World} {g : Nat} {t : TypeId} {cs : Array Value} (h : Bk w g t cs) : Bk w.drew g t cs := h
theorem Bk.alloc {w : World} {g : Nat} {t : TypeId} {cs : Array Value} (h : Bk w g t cs) (o : Obj) : Bk (w.alloc o) g t cs := (Below.heap_alloc w o g h.lt).trans h
theorem Bk.set {w : World} {g : Nat} {t : TypeId} {cs : Array Value} (h : Bk w g t cs) (i : Nat) (u : Value) : Bk (w.setCell ⟨g, i, none⟩ u) g t (cs.setIfInBounds i u) := by
  unfold Bk at h ⊢
  simp [World.setCell, Array.getElem?_modify, h]
theorem Bk.below {w w' : World} {g : Nat} {t : TypeId} {cs : Array Value} {B : Nat} (h : Bk w g t cs) (hb : Below B w w') (hg : g < B) : Bk w' g t cs := (hb.block g hg).trans h
end Go.Proofs.YtdmglajfmfjmlaaGreat
namespace Go.Proofs.YtdmglajfmfjmlaaGreat
set_option linter.unusedSimpArgs false
set_option linter.unusedVariables false
set_option maxRecDepth 100000
def nv : List Nat → Nat
  | [] => 0
  | x :: xs => x + 18446744073709551616 * nv xs
def limbs (n : Nat) : List Nat := if h : n = 0 then [] else (n % 18446744073709551616) :: limbs (n / 18446744073709551616)
termination_by n
decreasing_by exact Nat.div_lt_self (Nat.pos_of_ne_zero h) (by omega)
def B64 (xs : List Nat) : Prop := ∀ x ∈ xs, x < 18446744073709551616
def ln (n : Nat) : Nat := (limbs n).length
theorem limbs_zero : limbs 0 = [] := by rw [limbs]; simp
theorem limbs_pos {n : Nat} (h : n ≠ 0) : limbs n = (n % 18446744073709551616) :: limbs (n / 18446744073709551616) := by rw [limbs]; simp [h]
theorem B64.nil : B64 [] := fun x hx => by cases hx
theorem B64.cons {x : Nat} {xs : List Nat} (h : x < 18446744073709551616) (hs : B64 xs) : B64 (x :: xs) := fun y hy => by
  rcases List.mem_cons.1 hy with rfl | hy
  · exact h
  · exact hs y hy
theorem B64.head {x : Nat} {xs : List Nat} (h : B64 (x :: xs)) : x < 18446744073709551616 := h x (by simp)
theorem B64.tail {x : Nat} {xs : List Nat} (h : B64 (x :: xs)) : B64 xs := fun y hy => h y (by simp [hy])
theorem B64.get {xs : List Nat} (h : B64 xs) {j x : Nat} (hx : xs[j]? = some x) : x < 18446744073709551616 := h x (List.mem_of_getElem? hx)
theorem B64.gd {xs : List Nat} (h : B64 xs) (j : Nat) : gd xs j < 18446744073709551616 := by
  rcases Nat.lt_or_ge j xs.length with hj | hj
  · exact h.get (gd_get hj)
  · rw [gd_ge hj]; omega
theorem B64.take {xs : List Nat} (h : B64 xs) (k : Nat) : B64 (xs.take k) := fun x hx => h x (List.mem_of_mem_take hx)
theorem B64.drop {xs : List Nat} (h : B64 xs) (k : Nat) : B64 (xs.drop k) := fun x hx => h x (List.mem_of_mem_drop hx)
theorem B64.append {xs ys : List Nat} (h : B64 xs) (h' : B64 ys) : B64 (xs ++ ys) := fun x hx => by
  rcases List.mem_append.1 hx with hx | hx
  · exact h x hx
  · exact h' x hx
theorem B64.set {xs : List Nat} (h : B64 xs) {j y : Nat} (hy : y < 18446744073709551616) : B64 (xs.set j y) := fun x hx => by
  rcases List.mem_or_eq_of_mem_set hx with hx | rfl
  · exact h x hx
  · exact hy
theorem B64.replicate (n : Nat) : B64 (List.replicate n 0) := fun x hx => by rw [List.eq_of_mem_replicate hx]; omega
theorem limbs_b64 (n : Nat) : B64 (limbs n) := by
  induction n using Nat.strongRecOn with
  | ind n ih =>
    by_cases h : n = 0
    · subst h; rw [limbs_zero]; exact B64.nil
    · rw [limbs_pos h]; exact B64.cons (Nat.mod_lt _ (by omega)) (ih _ (Nat.div_lt_self (Nat.pos_of_ne_zero h) (by omega)))
theorem nv_limbs (n : Nat) : nv (limbs n) = n := by
  induction n using Nat.strongRecOn with
  | ind n ih =>
    by_cases h : n = 0
    · subst h; rw [limbs_zero]; rfl
    · rw [limbs_pos h, nv, ih _ (Nat.div_lt_self (Nat.pos_of_ne_zero h) (by omega))]; omega
theorem nv_append (xs ys : List Nat) : nv (xs ++ ys) = nv xs + 18446744073709551616 ^ xs.length * nv ys := by
  induction xs with
  | nil => simp [nv]
  | cons x xs ih => simp only [List.cons_append, nv, ih, List.length_cons, Nat.pow_succ]; rw [Nat.mul_add, Nat.mul_comm (18446744073709551616 ^ xs.length) 18446744073709551616, Nat.mul_assoc]; omega
theorem nv_lt {xs : List Nat} (h : B64 xs) : nv xs < 18446744073709551616 ^ xs.length := by
  induction xs with
  | nil => simp [nv]
  | cons x xs ih =>
    have := ih h.tail
    have hx := h.head
    simp only [nv, List.length_cons, Nat.pow_succ]
    omega
theorem nv_replicate (n : Nat) : nv (List.replicate n 0) = 0 := by
  induction n with
  | zero => rfl
  | succ n ih => simp [List.replicate_succ, nv, ih]
theorem limbs_nv {xs : List Nat} (h : B64 xs) (hl : ∀ x, xs.getLast? = some x → x ≠ 0) : limbs (nv xs) = xs := by
  induction xs with
  | nil => simp [nv, limbs_zero]
  | cons x xs ih =>
    have hx := h.head
    have e : nv xs = 0 → xs = [] := by
      intro h0
      rcases xs with _ | ⟨y, ys⟩
      · rfl
      · exfalso
        have hl' : ∀ z, (y :: ys).getLast? = some z → z ≠ 0 := fun z hz => hl z (by simpa [List.getLast?_cons_cons] using hz)
        have := ih h.tail hl'
        rw [h0, limbs_zero] at this
        cases this
    have hne : nv (x :: xs) ≠ 0 := by
      intro h0
      simp only [nv] at h0
      have h1 : nv xs = 0 := by omega
      have h2 := e h1
      subst h2
      exact hl x (by simp) (by omega)
    rw [limbs_pos hne]
    have e1 : nv (x :: xs) % 18446744073709551616 = x := by simp only [nv]; omega
    have e2 : nv (x :: xs) / 18446744073709551616 = nv xs := by simp only [nv]; omega
    rw [e1, e2]
    rcases xs with _ | ⟨y, ys⟩
    · simp [nv, limbs_zero]
    · rw [ih h.tail fun z hz => hl z (by simpa [List.getLast?_cons_cons] using hz)]
theorem limbs_last (n : Nat) : ∀ x, (limbs n).getLast? = some x → x ≠ 0 := by
  induction n using Nat.strongRecOn with
  | ind n ih =>
    by_cases h : n = 0
    · subst h; rw [limbs_zero]; intro x hx; cases hx
    · rw [limbs_pos h]
      by_cases h2 : n / 18446744073709551616 = 0
      · rw [h2, limbs_zero]; intro x hx; simp at hx; omega
      · intro x hx
        rw [limbs_pos h2, List.getLast?_cons_cons, ← limbs_pos h2] at hx
        exact ih _ (Nat.div_lt_self (Nat.pos_of_ne_zero h) (by omega)) x hx
theorem ln_zero : ln 0 = 0 := by unfold ln; rw [limbs_zero]; rfl
theorem ln_pos {n : Nat} (h : n ≠ 0) : ln n = ln (n / 18446744073709551616) + 1 := by unfold ln; rw [limbs_pos h]; rfl
theorem ln_le {n k : Nat} : ln n ≤ k ↔ n < 18446744073709551616 ^ k := by
  induction k generalizing n with
  | zero =>
    by_cases h : n = 0
    · subst h; simp [ln_zero]
    · rw [ln_pos h]; simp; omega
  | succ k ih =>
    by_cases h : n = 0
    · subst h; rw [ln_zero]; exact ⟨fun _ => Nat.pow_pos (by omega), fun _ => by omega⟩
    · rw [ln_pos h, Nat.add_le_add_iff_right, ih, Nat.pow_succ, Nat.div_lt_iff_lt_mul (by omega)]
theorem ln_mono {a b : Nat} (h : a ≤ b) : ln a ≤ ln b := ln_le.2 (Nat.lt_of_le_of_lt h (ln_le.1 (Nat.le_refl _)))
theorem lt_ln (n : Nat) : n < 18446744073709551616 ^ ln n := ln_le.1 (Nat.le_refl _)
theorem ln_nv {xs : List Nat} (h : B64 xs) : ln (nv xs) ≤ xs.length := ln_le.2 (nv_lt h)
theorem ln_add (a b k : Nat) (ha : ln a ≤ k) (hb : ln b ≤ k) : ln (a + b) ≤ k + 1 := by
  rw [ln_le] at *; rw [Nat.pow_succ]; omega
theorem ln_mul (a b : Nat) : ln (a * b) ≤ ln a + ln b := by
  rw [ln_le, Nat.pow_add]
  exact Nat.mul_lt_mul_of_lt_of_le (lt_ln a) (Nat.le_of_lt (lt_ln b)) (Nat.zero_lt_of_lt (lt_ln b))
theorem ln_div (a b : Nat) : ln (a / b) ≤ ln a := ln_mono (Nat.div_le_self _ _)
theorem ln_small {n : Nat} (h : n < 18446744073709551616) : ln n ≤ 1 := ln_le.2 (by simpa using h)
theorem nv_take_succ {xs : List Nat} {k : Nat} (h : k < xs.length) : nv (xs.take (k + 1)) = nv (xs.take k) + 18446744073709551616 ^ k * gd xs k := by
  rw [List.take_succ_eq_append_getElem h, nv_append, List.length_take, Nat.min_eq_left (by omega)]
  rw [gd_lt h]; simp [nv]
theorem nv_take_ge {xs : List Nat} {k : Nat} (h : xs.length ≤ k) : nv (xs.take (k + 1)) = nv (xs.take k) + 18446744073709551616 ^ k * gd xs k := by
  rw [List.take_of_length_le (by omega), List.take_of_length_le h]
  rw [gd_ge h]; simp
theorem nv_take (xs : List Nat) (k : Nat) : nv (xs.take (k + 1)) = nv (xs.take k) + 18446744073709551616 ^ k * gd xs k := by
  rcases Nat.lt_or_ge k xs.length with h | h
  · exact nv_take_succ h
  · exact nv_take_ge h
theorem nv_take_lt {xs : List Nat} (h : B64 xs) (k : Nat) : nv (xs.take k) < 18446744073709551616 ^ k := by
  refine Nat.lt_of_lt_of_le (nv_lt (h.take k)) (Nat.pow_le_pow_right (by omega) ?_)
  rw [List.length_take]; omega
theorem nv_split (xs : List Nat) (k : Nat) (h : k ≤ xs.length) : nv xs = nv (xs.take k) + 18446744073709551616 ^ k * nv (xs.drop k) := by
  have := nv_append (xs.take k) (xs.drop k)
  rw [List.take_append_drop, List.length_take, Nat.min_eq_left h] at this
  exact this
theorem lt_digit {a b P X Y : Nat} (ha : a < P) (h : X < Y) : a + P * X < b + P * Y := by
  have := Nat.mul_le_mul_left P (show X + 1 ≤ Y from h)
  rw [Nat.mul_add] at this; omega
def Alike (xs ys : List Nat) (k : Nat) : Prop := ∃ H, nv xs = nv (xs.take k) + 18446744073709551616 ^ k * H ∧ nv ys = nv (ys.take k) + 18446744073709551616 ^ k * H
theorem Alike.start {xs ys : List Nat} {k : Nat} (h : xs.length ≤ k) (h' : ys.length ≤ k) : Alike xs ys k := ⟨0, by rw [List.take_of_length_le h]; simp, by rw [List.take_of_length_le h']; simp⟩
theorem Alike.zero {xs ys : List Nat} (h : Alike xs ys 0) : nv xs = nv ys := by
  obtain ⟨H, h1, h2⟩ := h
  simp [nv] at h1 h2; omega
theorem Alike.down {xs ys : List Nat} {k : Nat} (h : Alike xs ys (k + 1)) :
    ∃ H, nv xs = nv (xs.take k) + 18446744073709551616 ^ k * (gd xs k + 18446744073709551616 * H) ∧ nv ys = nv (ys.take k) + 18446744073709551616 ^ k * (gd ys k + 18446744073709551616 * H) := by
  obtain ⟨H, h1, h2⟩ := h
  refine ⟨H, ?_, ?_⟩
  · rw [h1, nv_take, Nat.pow_succ, Nat.mul_add, Nat.mul_assoc]; omega
  · rw [h2, nv_take, Nat.pow_succ, Nat.mul_add, Nat.mul_assoc]; omega
theorem Alike.lt {xs ys : List Nat} {k : Nat} (h : Alike xs ys (k + 1)) (hx : B64 xs) (hd : gd xs k < gd ys k) : nv xs < nv ys := by
  obtain ⟨H, h1, h2⟩ := h.down
  rw [h1, h2]
  exact lt_digit (nv_take_lt hx k) (by omega)
theorem Alike.symm {xs ys : List Nat} {k : Nat} (h : Alike xs ys k) : Alike ys xs k := by
  obtain ⟨H, h1, h2⟩ := h
  exact ⟨H, h2, h1⟩
theorem Alike.next {xs ys : List Nat} {k : Nat} (h : Alike xs ys (k + 1)) (hd : gd xs k = gd ys k) : Alike xs ys k := by
  obtain ⟨H, h1, h2⟩ := h.down
  exact ⟨gd xs k + 18446744073709551616 * H, h1, by rw [hd]; exact h2⟩
theorem trim_done {xs : List Nat} {k : Nat} (h : B64 xs) (hk : k < xs.length) (h0 : gd xs k ≠ 0) (hv : nv (xs.take (k + 1)) = nv xs) : limbs (nv xs) = xs.take (k + 1) := by
  rw [← hv]
  refine limbs_nv (h.take _) fun x hx => ?_
  rw [List.take_succ_eq_append_getElem hk, List.getLast?_concat] at hx
  rw [gd_lt hk] at h0
  simp only [Option.some.injEq] at hx
  rw [← hx]; exact h0
theorem trim_more {xs : List Nat} {k : Nat} (h0 : gd xs k = 0) (hv : nv (xs.take (k + 1)) = nv xs) : nv (xs.take k) = nv xs := by
  rw [nv_take, h0] at hv; simpa using hv
def cmpN (x y : Nat) : Int := if x < y then -1 else if y < x then 1 else 0
theorem cmpN_lt {x y : Nat} (h : x < y) : cmpN x y = -1 := by unfold cmpN; rw [if_pos h]
theorem cmpN_gt {x y : Nat} (h : y < x) : cmpN x y = 1 := by unfold cmpN; rw [if_neg (by omega), if_pos h]
theorem cmpN_eq {x y : Nat} (h : x = y) : cmpN x y = 0 := by unfold cmpN; rw [if_neg (by omega), if_neg (by omega)]
end Go.Proofs.YtdmglajfmfjmlaaGreat
namespace Go.Proofs.YtdmglajfmfjmlaaGreat
set_option linter.unusedSimpArgs false
set_option linter.unusedVariables false
set_option maxRecDepth 100000
open Go.RowKit
def vs (k : IntKind) (xs : List Nat) : List Value := xs.map fun (x : Nat) => .int k (x : Int)
def va (k : IntKind) (xs : List Nat) : Array Value := (vs k xs).toArray
theorem vs_length (k : IntKind) (xs : List Nat) : (vs k xs).length = xs.length := by simp [vs]
theorem va_size (k : IntKind) (xs : List Nat) : (va k xs).size = xs.length := by simp [va, vs]
theorem vs_get (k : IntKind) (xs : List Nat) (j : Nat) : (vs k xs)[j]? = xs[j]?.map fun (x : Nat) => .int k (x : Int) := by simp [vs]
theorem va_get (k : IntKind) (xs : List Nat) (j : Nat) : (va k xs)[j]? = xs[j]?.map fun (x : Nat) => .int k (x : Int) := by simp [va, vs]
theorem va_at (k : IntKind) {xs : List Nat} {j : Nat} (h : j < xs.length) : (va k xs)[j]? = some (.int k ((gd xs j : Nat) : Int)) := by
  rw [va_get, gd_get h]; rfl
theorem va_set (k : IntKind) (xs : List Nat) (j y : Nat) : (va k xs).setIfInBounds j (.int k (y : Int)) = va k (xs.set j y) := by
  simp [va, vs, List.map_set]
theorem vs_append (k : IntKind) (xs ys : List Nat) : vs k (xs ++ ys) = vs k xs ++ vs k ys := by simp [vs]
theorem vs_one (k : IntKind) (xs : List Nat) : ∀ u ∈ vs k xs, u.oneCell' = true := by
  intro u hu
  simp only [vs, List.mem_map] at hu
  obtain ⟨x, _, rfl⟩ := hu
  rfl
theorem made_va (k : IntKind) (n : Nat) : madeCells #[.int k 0] n = va k (List.replicate n 0) := by
  apply Array.toList_inj.1
  rw [toList_madeCells_one]
  simp [va, vs]
theorem adlt {ad : Addr} {B : Nat} (h : ad.block < B) (j : Nat) : (ad.add j).block < B := by rw [Go.ChangeShapes.block_add]; exact h
theorem ad_plain (g j : Nat) : (⟨g, 0, none⟩ : Addr).add j = ⟨g, j, none⟩ := by unfold Addr.add; split <;> simp_all
def Rd (k : IntKind) (w : World) (A : Option Addr) (n c : Nat) (xs : List Nat) : Prop :=
  xs.length = n ∧ n ≤ c ∧ n ≤ 9223372036854775807 ∧ (0 < n → ∃ ad, A = some ad ∧ ad.block < w.heap.size ∧ ∀ (j x : Nat), xs[j]? = some x → w.cell? (ad.add j) = some (.int k (x : Int)))
section
variable {k : IntKind} {w w' : World} {A : Option Addr} {n c : Nat} {xs : List Nat}
theorem Rd.nil (k : IntKind) (w : World) (A : Option Addr) (c : Nat) : Rd k w A 0 c [] := ⟨rfl, Nat.zero_le _, by omega, fun h => absurd h (by omega)⟩
theorem Rd.len (h : Rd k w A n c xs) : xs.length = n := h.1
theorem Rd.cap (h : Rd k w A n c xs) : n ≤ c := h.2.1
theorem Rd.max (h : Rd k w A n c xs) : n ≤ 9223372036854775807 := h.2.2.1
theorem Rd.form (h : Rd k w A n c xs) (hn : 0 < n) : ∃ ad, A = some ad ∧ ad.block < w.heap.size ∧ ∀ j, j < n → w.cell? (ad.add j) = some (.int k ((gd xs j : Nat) : Int)) := by
  obtain ⟨h1, _, _, h3⟩ := h
  obtain ⟨ad, rfl, hb, hc⟩ := h3 hn
  refine ⟨ad, rfl, hb, fun j hj => hc j _ ?_⟩
  exact gd_get (by omega)
theorem Rd.below (h : Rd k w A n c xs) (hb : Below w.heap.size w w') : Rd k w' A n c xs := by
  obtain ⟨h1, h2, h2', h3⟩ := h
  refine ⟨h1, h2, h2', fun hn => ?_⟩
  obtain ⟨ad, rfl, hlt, hc⟩ := h3 hn
  exact ⟨ad, rfl, Nat.lt_of_lt_of_le hlt hb.size, fun j x hx => (hb.cell (p := ad.add j) (adlt hlt j)).trans (hc j x hx)⟩
theorem Rd.alloc (h : Rd k w A n c xs) (o : Obj) : Rd k (w.alloc o) A n c xs := h.below ((Below.refl _ _).alloc (Nat.le_refl _) _)
theorem Rd.drewN (h : Rd k w A n c xs) (m : Nat) : Rd k (w.drewN m) A n c xs := h.below (below_drewN (Below.refl _ _) m)
theorem Rd.drew (h : Rd k w A n c xs) : Rd k w.drew A n c xs := h.below (Below.drew (Below.refl _ _))
theorem Rd.take (h : Rd k w A n c xs) {m : Nat} (hm : m ≤ n) : Rd k w A m c (xs.take m) := by
  obtain ⟨h1, h2, h2', h3⟩ := h
  refine ⟨by rw [List.length_take]; omega, by omega, by omega, fun hn => ?_⟩
  obtain ⟨ad, rfl, hlt, hc⟩ := h3 (by omega)
  refine ⟨ad, rfl, hlt, fun j x hx => hc j x ?_⟩
  rw [List.getElem?_take] at hx
  split at hx
  · exact hx
  · cases hx
theorem Rd.drop (h : Rd k w A n c xs) {m : Nat} (hm : m ≤ n) : Rd k w (if c = m then A else A.map (·.add m)) (n - m) (c - m) (xs.drop m) := by
  obtain ⟨h1, h2, h2', h3⟩ := h
  refine ⟨by rw [List.length_drop]; omega, by omega, by omega, fun hn => ?_⟩
  obtain ⟨ad, rfl, hlt, hc⟩ := h3 (by omega)
  rw [if_neg (by omega)]
  refine ⟨ad.add m, rfl, adlt hlt m, fun j x hx => ?_⟩
  rw [List.getElem?_drop] at hx
  rw [Addr.add_add]; exact hc _ x hx
theorem Rd.cells (h : Rd k w A n c xs) {ad : Addr} (hA : A = some ad) : ∀ j u, (vs k xs)[j]? = some u → w.cell? (ad.add j) = some u := by
  intro j u hu
  rw [vs_get] at hu
  obtain ⟨h1, _, _, h3⟩ := h
  cases hx : xs[j]? with
  | none => rw [hx] at hu; cases hu
  | some x =>
    rw [hx] at hu
    have hj : j < xs.length := by rcases Nat.lt_or_ge j xs.length with h | h; exact h; rw [List.getElem?_eq_none h] at hx; cases hx
    obtain ⟨ad', hA', _, hc⟩ := h3 (by omega)
    rw [hA] at hA'
    obtain rfl := Option.some.inj hA'
    rw [hc j x hx]; exact hu
end
def Own (k : IntKind) (e : TypeId) (w : World) (base : Nat) (A : Option Addr) (n c : Nat) (xs : List Nat) : Prop := w.ownsRow base e 1 (.slice A n c) n (vs k xs)
section
variable {k : IntKind} {e : TypeId} {w w' : World} {base : Nat} {A : Option Addr} {n c : Nat} {xs : List Nat}
theorem Own.len (h : Own k e w base A n c xs) : xs.length = n := by have := h.1; rw [vs_length] at this; omega
theorem Own.nil (k : IntKind) (e : TypeId) (w : World) (base : Nat) : Own k e w base none 0 0 [] := World.ownsRow_nil w base e 1
theorem Own.ways (h : Own k e w base A n c xs) : (A = none ∧ n = 0 ∧ c = 0 ∧ xs = []) ∨ ∃ g, A = some ⟨g, 0, none⟩ ∧ base ≤ g ∧ g < w.heap.size ∧ n ≤ c ∧ c ≤ 9223372036854775807 := by
  rcases h.2 with ⟨h1, h2⟩ | ⟨g, cap, cur, h1, hb, hg, hnc, hm, _⟩
  · left
    simp only [Value.slice.injEq] at h1
    exact ⟨h1.1, h1.2.1, h1.2.2, List.eq_nil_of_length_eq_zero (by rw [Own.len h, h2])⟩
  · right
    simp only [Value.slice.injEq] at h1
    obtain ⟨rfl, _, rfl⟩ := h1
    exact ⟨g, rfl, hb, (Array.getElem?_eq_some_iff.1 hg).1, hnc, by unfold maxLen at hm; omega⟩
theorem Own.rd (h : Own k e w base A n c xs) : Rd k w A n c xs := by
  rcases h.ways with ⟨rfl, rfl, rfl, rfl⟩ | ⟨g, rfl, _, hlt, hnc, hm⟩
  · exact Rd.nil _ _ _ _
  · refine ⟨h.len, hnc, by omega, fun hn => ⟨⟨g, 0, none⟩, rfl, hlt, fun j x hx => ?_⟩⟩
    have := World.ownsRow.cells h (g := g) rfl j (.int k (x : Int)) (by rw [vs_get, hx]; rfl)
    exact this
theorem Own.below (h : Own k e w base A n c xs) (hb : Below w.heap.size w w') : Own k e w' base A n c xs := by
  refine ⟨h.1, ?_⟩
  rcases h.2 with hn | ⟨g, cap, cur, h1, hg, hh, rest⟩
  · exact .inl hn
  · exact .inr ⟨g, cap, cur, h1, hg, (hb.block g (Array.getElem?_eq_some_iff.1 hh).1).trans hh, rest⟩
theorem Own.lower (h : Own k e w base A n c xs) {b' : Nat} (hb : b' ≤ base) : Own k e w b' A n c xs := by
  refine ⟨h.1, ?_⟩
  rcases h.2 with hn | ⟨g, cap, cur, h1, hg, rest⟩
  · exact .inl hn
  · exact .inr ⟨g, cap, cur, h1, Nat.le_trans hb hg, rest⟩
theorem Own.of_bk {g : Nat} (h : Bk w g e (va k xs)) (hb : base ≤ g) (hn : xs.length = n) (hm : n ≤ 9223372036854775807) : Own k e w base (some ⟨g, 0, none⟩) n n xs := by
  refine ⟨by rw [vs_length]; omega, .inr ⟨g, n, va k xs, rfl, hb, h, Nat.le_refl _, by unfold maxLen; omega, by rw [va_size]; omega, ?_⟩⟩
  rw [Nat.mul_one, List.take_of_length_le (by simp [va, vs_length]; omega)]
  simp [va]
theorem Own.bk {g : Nat} (h : Own k e w base (some ⟨g, 0, none⟩) n n xs) : Bk w g e (va k xs) := by
  rcases h.2 with ⟨h1, _⟩ | ⟨g', cap, cur, h1, _, hh, _, _, hs, ht⟩
  · simp at h1
  · simp only [Value.slice.injEq, Option.some.injEq, Addr.mk.injEq, and_true, true_and] at h1
    obtain ⟨rfl, rfl⟩ := h1
    have : cur = va k xs := by
      apply Array.toList_inj.1
      rw [Nat.mul_one, List.take_of_length_le (by simp; omega)] at ht
      rw [ht]; simp [va]
    unfold Bk
    rw [← this]; exact hh
end
section
variable {P : Program} (w : World)
theorem run_append_rd (k : IntKind) (base : Nat) (t ty e : TypeId) (i : TypeInfo) (z : Value) (bytes : Nat) (ht : P.underlying t = some (.slice e)) (hi : P.info? e = some i) (hz : i.zero = some z)
    (hsize : i.size = 1) (hby : i.bytes = bytes) (hzs : z.cells.size = 1)
    (A : Option Addr) (n c : Nat) (xs : List Nat) (hown : Own k e w base A n c xs) (B : Option Addr) (m d : Nat) (ys : List Nat) (hr : Rd k w B m d ys)
    (h63 : n + m ≤ maxLen) (hbytes : (n + m) * bytes ≤ 140737488355328) (hbase : base ≤ w.heap.size) :
    ∃ A' c' w', (Builtin.append_ #[t, t] ty #[.slice A n c, .slice B m d]).run P w = .ok (.slice A' (n + m) c') w' ∧ Own k e w' base A' (n + m) c' (xs ++ ys) ∧ Below base w w' ∧ w.heap.size ≤ w'.heap.size ∧
      (∀ g, g < w.heap.size → (∀ o, A ≠ some ⟨g, o, none⟩) → w'.heap[g]? = w.heap[g]?) := by
  have blw {v' : Value} {w' : World} (h3 : w.grownBy w' (Value.slice A n c).ownBlock) : Below base w w' :=
    (Below.refl _ _).grown h3 hbase (fun g hg => ((World.ownsRow.lt hown) g hg).1)
  have kept {w' : World} (h3 : w.grownBy w' (Value.slice A n c).ownBlock) : ∀ g, g < w.heap.size → (∀ o, A ≠ some ⟨g, o, none⟩) → w'.heap[g]? = w.heap[g]? := by
    intro g hg hne
    refine h3.block g hg ?_
    rcases hown.ways with ⟨rfl, _⟩ | ⟨g', rfl, _⟩
    · simp [Value.ownBlock]
    · simp only [Value.ownBlock]
      intro e
      simp only [Option.some.injEq] at e
      exact hne 0 (by rw [e])
  have shape {v' : Value} {w' : World} (h : w'.ownsRow base e 1 v' (n + m) (vs k (xs ++ ys))) : ∃ A' c', v' = .slice A' (n + m) c' := by
    rcases h.2 with ⟨h1, h2⟩ | ⟨g, cap, cur, h1, _⟩
    · exact ⟨none, 0, by rw [h1, h2]⟩
    · exact ⟨_, _, h1⟩
  rcases Nat.eq_zero_or_pos m with h0 | h0
  · subst h0
    have hy : ys = [] := List.eq_nil_of_length_eq_zero hr.len
    subst hy
    rcases B with _ | ad
    · refine ⟨A, c, w, ?_, by simpa using hown, Below.refl _ _, Nat.le_refl _, fun _ _ _ => rfl⟩
      rcases hown.2 with ⟨h1, h2⟩ | ⟨g, cap, cur, h1, _, _, hnc, _⟩
      · simp only [Value.slice.injEq] at h1
        obtain ⟨rfl, rfl, rfl⟩ := h1
        simp [Builtin.append_, run_underlying ht, sizeOf, typeInfo, hi, Builtin.lenOf, Builtin.firstCells]
      · simp only [Value.slice.injEq] at h1
        obtain ⟨rfl, _, rfl⟩ := h1
        simp [Builtin.append_, run_underlying ht, sizeOf, typeInfo, hi, Builtin.lenOf, Builtin.firstCells, hnc, storeCells]
    · obtain ⟨v', w', hrun, h2, h3, _, _⟩ := run_append_own_at (P := P) w base t ty e i z 1 bytes ht hi hz hsize hby hzs (by omega) (.slice A n c) n (vs k xs) hown ad 0 d [] (by simp) (by simp) (by simp) h63 hbytes hbase
      obtain ⟨A', c', rfl⟩ := shape (by simpa using h2)
      exact ⟨A', c', w', hrun, by simpa [Own] using h2, blw (v' := .slice A' (n + 0) c') h3, h3.size, kept h3⟩
  · obtain ⟨ad, rfl, hlt, hc⟩ := hr.form h0
    obtain ⟨v', w', hrun, h2, h3, _, _⟩ := run_append_own_at (P := P) w base t ty e i z 1 bytes ht hi hz hsize hby hzs (by omega) (.slice A n c) n (vs k xs) hown ad m d (vs k ys) (by rw [vs_length, hr.len]; omega) (hr.cells rfl) (vs_one k ys) h63 hbytes hbase
    rw [← vs_append] at h2
    obtain ⟨A', c', rfl⟩ := shape h2
    exact ⟨A', c', w', hrun, h2, blw (v' := .slice A' (n + m) c') h3, h3.size, kept h3⟩
theorem wp_append_rd {o : Oper} {a : Act} {K : Act → World → Prop} {Q : Exit → Act → World → Prop} (s x : Operand) (t : TypeId)
    (ho : o.op = .call { callee := .builtin .append, args := #[s, x], argTypes := #[t, t] })
    (k : IntKind) (base : Nat) (e : TypeId) (i : TypeInfo) (z : Value) (bytes : Nat) (ht : P.underlying t = some (.slice e)) (hi : P.info? e = some i) (hz : i.zero = some z)
    (hsize : i.size = 1) (hby : i.bytes = bytes) (hzs : z.cells.size = 1)
    (A : Option Addr) (n c : Nat) (xs : List Nat) (hs : a.eval s = .slice A n c) (hown : Own k e w base A n c xs) (B : Option Addr) (m d : Nat) (ys : List Nat) (hx : a.eval x = .slice B m d) (hr : Rd k w B m d ys)
    (h63 : n + m ≤ maxLen) (hbytes : (n + m) * bytes ≤ 140737488355328) (hbase : base ≤ w.heap.size)
    (h : ∀ A' c' w', Own k e w' base A' (n + m) c' (xs ++ ys) → Below base w w' → w.heap.size ≤ w'.heap.size → (∀ g, g < w.heap.size → (∀ o, A ≠ some ⟨g, o, none⟩) → w'.heap[g]? = w.heap[g]?) → K (a.put o.dst (.slice A' (n + m) c')) w') : o.wp P a w K Q := by
  obtain ⟨A', c', w', hrun, h2, h3, h4, h5⟩ := run_append_rd (P := P) w k base t o.type e i z bytes ht hi hz hsize hby hzs A n c xs hown B m d ys hr h63 hbytes hbase
  unfold Oper.wp execOp
  simp only [ho, resolve, invoke, builtin, Sem.run_bind, Sem.run_pure, Result.andThen_ok, List.map_toArray, List.map_cons, List.map_nil, hs, hx, hrun]
  exact h A' c' w' h2 h3 h4 h5
theorem wpList_append_rd {ops : Array Oper} {rest : List Oper} {o : Oper} {a : Act} {Q : Exit → Act → World → Prop} (hgd : o.guard = none) (s x : Operand) (t : TypeId)
    (ho : o.op = .call { callee := .builtin .append, args := #[s, x], argTypes := #[t, t] })
    (k : IntKind) (base : Nat) (e : TypeId) (i : TypeInfo) (z : Value) (bytes : Nat) (ht : P.underlying t = some (.slice e)) (hi : P.info? e = some i) (hz : i.zero = some z)
    (hsize : i.size = 1) (hby : i.bytes = bytes) (hzs : z.cells.size = 1)
    (A : Option Addr) (n c : Nat) (xs : List Nat) (hs : a.eval s = .slice A n c) (hown : Own k e w base A n c xs) (B : Option Addr) (m d : Nat) (ys : List Nat) (hx : a.eval x = .slice B m d) (hr : Rd k w B m d ys)
    (h63 : n + m ≤ maxLen) (hbytes : (n + m) * bytes ≤ 140737488355328) (hbase : base ≤ w.heap.size)
    (h : ∀ A' c' w', Own k e w' base A' (n + m) c' (xs ++ ys) → Below base w w' → w.heap.size ≤ w'.heap.size → (∀ g, g < w.heap.size → (∀ o, A ≠ some ⟨g, o, none⟩) → w'.heap[g]? = w.heap[g]?) → wpList P ops Q rest (a.put o.dst (.slice A' (n + m) c')) w') : wpList P ops Q (o :: rest) a w :=
  wpList_plain hgd fun _ hK => wp_append_rd w s x t ho k base e i z bytes ht hi hz hsize hby hzs A n c xs hs hown B m d ys hx hr h63 hbytes hbase fun A' c' w' h2 h3 h4 h5 => hK _ _ (h A' c' w' h2 h3 h4 h5)
theorem step_append_rd {ops : Array Oper} {o : Oper} {a : Act} {K : Act → World → Prop} {Q : Exit → Act → World → Prop} {E : Prop} (hgd : o.guard = none) (s x : Operand) (t : TypeId)
    (ho : o.op = .call { callee := .builtin .append, args := #[s, x], argTypes := #[t, t] })
    (k : IntKind) (base : Nat) (e : TypeId) (i : TypeInfo) (z : Value) (bytes : Nat) (ht : P.underlying t = some (.slice e)) (hi : P.info? e = some i) (hz : i.zero = some z)
    (hsize : i.size = 1) (hby : i.bytes = bytes) (hzs : z.cells.size = 1)
    (A : Option Addr) (n c : Nat) (xs : List Nat) (hs : a.eval s = .slice A n c) (hown : Own k e w base A n c xs) (B : Option Addr) (m d : Nat) (ys : List Nat) (hx : a.eval x = .slice B m d) (hr : Rd k w B m d ys)
    (h63 : n + m ≤ maxLen) (hbytes : (n + m) * bytes ≤ 140737488355328) (hbase : base ≤ w.heap.size)
    (h : ∀ A' c' w', Own k e w' base A' (n + m) c' (xs ++ ys) → Below base w w' → w.heap.size ≤ w'.heap.size → (∀ g, g < w.heap.size → (∀ o, A ≠ some ⟨g, o, none⟩) → w'.heap[g]? = w.heap[g]?) → K (a.put o.dst (.slice A' (n + m) c')) w') :
    if Region.wanted o (yielded ops a.tmps) = true then Oper.wp P o a w K Q else E := by
  have hw : Region.wanted o (yielded ops a.tmps) = true := by simp [Region.wanted, hgd]
  rw [if_pos hw]
  exact wp_append_rd w s x t ho k base e i z bytes ht hi hz hsize hby hzs A n c xs hs hown B m d ys hx hr h63 hbytes hbase h
end
end Go.Proofs.YtdmglajfmfjmlaaGreat
namespace Go.Proofs.YtdmglajfmfjmlaaGreat
set_option linter.unusedSimpArgs false
set_option linter.unusedVariables false
set_option maxRecDepth 100000
open Go.RowKit
def NA (w : World) (A : Option Addr) (n c : Nat) (m : Nat) : Prop := ∃ xs, Rd .u64 w A n c xs ∧ B64 xs ∧ nv xs = m
def RetN (m : Nat) (w : World) (e : Ending) (w' : World) : Prop := ∃ A c, e = .returned (.slice A (ln m) c) ∧ Own .u64 23 w' w.heap.size A (ln m) c (limbs m) ∧ Below w.heap.size w w'
theorem u64_info : (Tryz.prog.info? 23).map (fun i => (i.zero, i.size, i.bytes)) = some (some (.int .u64 0), 1, 8) := by kernel_rfl
theorem NA.below {w w' : World} {A : Option Addr} {n c m : Nat} (h : NA w A n c m) (hb : Below w.heap.size w w') : NA w' A n c m := by
  obtain ⟨xs, h1, h2, h3⟩ := h
  exact ⟨xs, h1.below hb, h2, h3⟩
theorem Own.na {w : World} {base : Nat} {A : Option Addr} {n c m : Nat} {e : TypeId} (h : Own .u64 e w base A n c (limbs m)) : NA w A n c m := ⟨_, h.rd, limbs_b64 m, nv_limbs m⟩
set_option maxHeartbeats 400000 in
theorem limb_any (w : World) {A : Option Addr} {n c : Nat} {xs : List Nat} (h : Rd .u64 w A n c xs) (i : Nat) (hi : i ≤ 4611686018427387904) :
    Calls Tryz.prog 127 #[.slice A n c, .int .i64 i] w fun e w' => e = .returned (.int .u64 ((gd xs i : Nat) : Int)) ∧ w = w' := by
  by_cases hlt : i < n
  · obtain ⟨ad, rfl, hb, hc⟩ := h.form (by omega)
    have hx := hc i hlt
    have hm := h.max
    have hcap := h.cap
    clear hc h
    go_enter Tryz.func127, Tryz.ntmps127
    go_wp2
    go_ret
    exact ⟨rfl, rfl⟩
  · have H := Lib.hid (show gd xs i = 0 from gd_ge (by rw [h.len]; omega))
    have hm := h.max
    have hcap := h.cap
    clear h
    go_enter Tryz.func127, Tryz.ntmps127
    go_wp2
    go_ret
    exact ⟨by rw [H.out]; rfl, rfl⟩
set_option maxHeartbeats 400000 in
theorem cmp_any (w : World) {A B : Option Addr} {n c m d x y : Nat} (hx : NA w A n c x) (hy : NA w B m d y) (hn : n ≤ 1048576) (hm : m ≤ 1048576) :
    Calls Tryz.prog 58 #[.slice A n c, .slice B m d] w fun e w' => e = .returned (.int .i64 (cmpN x y)) ∧ w = w' := by
  obtain ⟨xs, hx, bx, rfl⟩ := hx
  obtain ⟨ys, hy, by', rfl⟩ := hy
  have hal := Alike.start (xs := xs) (ys := ys) (k := max n m) (by rw [hx.len]; omega) (by rw [hy.len]; omega)
  have HX := Lib.hid hx
  have HY := Lib.hid hy
  have BX := Lib.hid bx
  have BY := Lib.hid by'
  clear hx hy bx by'
  by_cases hnm : n < m
  · have e : max n m = m := by omega
    rw [e] at hal
    clear e
    have hd : decide ((n : Int) < m) = true := by simp; omega
    have hmx : max (n : Int) (m : Int) = (m : Int) := by omega
    go_enter Tryz.func58, Tryz.ntmps58
    go_wp2
    go_loop [5] (fun i => ∃ k : Nat, k ≤ 1048576 ∧ Alike xs ys k ∧ i = .int .i64 ((k : Int) - 1)) (fun i => (intOf i + 1).toNat)
    case atStart => exact ⟨_, by omega, hal, rfl⟩
    case round =>
      obtain ⟨k, hk, hal', rfl⟩ := hrel
      by_cases hk0 : k = 0
      · subst hk0
        have HF := Lib.hid (cmpN_eq hal'.zero)
        go_wp2
        go_ret
        exact ⟨by rw [HF.out]; rfl, rfl⟩
      · obtain ⟨k, rfl⟩ : ∃ j, k = j + 1 := ⟨k - 1, by omega⟩
        have ek : ((k + 1 : Nat) : Int) - 1 = (k : Int) := by omega
        rw [ek]
        have HA := Lib.hid hal'
        clear hal' ek hk0
        rcases Nat.lt_trichotomy (gd xs k) (gd ys k) with ht | ht | ht
        · have HF := Lib.hid (cmpN_lt (HA.out.lt BX.out ht))
          have Ht : ((gd xs k : Nat) : Int) < ((gd ys k : Nat) : Int) := by omega
          clear ht
          go_wp2_with fail
          refine (limb_any w HX.out k (by omega)).mono ?_
          rintro e w' ⟨rfl, rfl⟩
          go_wp2_with fail
          refine (limb_any w HY.out k (by omega)).mono ?_
          rintro e w' ⟨rfl, rfl⟩
          go_wp2_with fail
          go_ret
          exact ⟨by rw [HF.out]; rfl, rfl⟩
        · have HN := Lib.hid (HA.out.next ht)
          go_wp2_with fail
          refine (limb_any w HX.out k (by omega)).mono ?_
          rintro e w' ⟨rfl, rfl⟩
          go_wp2_with fail
          refine (limb_any w HY.out k (by omega)).mono ?_
          rintro e w' ⟨rfl, rfl⟩
          clear ht
          go_wp2_with fail
          refine ⟨⟨k, by omega, HN.out, rfl⟩, by simp [intOf]⟩
        · have HF := Lib.hid (cmpN_gt (HA.out.symm.lt BY.out ht))
          have Ht : ((gd ys k : Nat) : Int) < ((gd xs k : Nat) : Int) := by omega
          have Hd : decide (((gd xs k : Nat) : Int) < ((gd ys k : Nat) : Int)) = false := by simp only [decide_eq_false_iff_not]; omega
          clear ht
          go_wp2_with fail
          refine (limb_any w HX.out k (by omega)).mono ?_
          rintro e w' ⟨rfl, rfl⟩
          go_wp2_with fail
          refine (limb_any w HY.out k (by omega)).mono ?_
          rintro e w' ⟨rfl, rfl⟩
          go_wp2_with fail
          go_ret
          exact ⟨by rw [HF.out]; rfl, rfl⟩
  · have e : max n m = n := by omega
    rw [e] at hal
    clear e
    have hd : decide ((n : Int) < m) = false := by simp; omega
    have hmx : max (n : Int) (m : Int) = (n : Int) := by omega
    go_enter Tryz.func58, Tryz.ntmps58
    go_wp2
    go_loop [5] (fun i => ∃ k : Nat, k ≤ 1048576 ∧ Alike xs ys k ∧ i = .int .i64 ((k : Int) - 1)) (fun i => (intOf i + 1).toNat)
    case atStart => exact ⟨_, by omega, hal, rfl⟩
    case round =>
      obtain ⟨k, hk, hal', rfl⟩ := hrel
      by_cases hk0 : k = 0
      · subst hk0
        have HF := Lib.hid (cmpN_eq hal'.zero)
        go_wp2
        go_ret
        exact ⟨by rw [HF.out]; rfl, rfl⟩
      · obtain ⟨k, rfl⟩ : ∃ j, k = j + 1 := ⟨k - 1, by omega⟩
        have ek : ((k + 1 : Nat) : Int) - 1 = (k : Int) := by omega
        rw [ek]
        have HA := Lib.hid hal'
        clear hal' ek hk0
        rcases Nat.lt_trichotomy (gd xs k) (gd ys k) with ht | ht | ht
        · have HF := Lib.hid (cmpN_lt (HA.out.lt BX.out ht))
          have Ht : ((gd xs k : Nat) : Int) < ((gd ys k : Nat) : Int) := by omega
          clear ht
          go_wp2_with fail
          refine (limb_any w HX.out k (by omega)).mono ?_
          rintro e w' ⟨rfl, rfl⟩
          go_wp2_with fail
          refine (limb_any w HY.out k (by omega)).mono ?_
          rintro e w' ⟨rfl, rfl⟩
          go_wp2_with fail
          go_ret
          exact ⟨by rw [HF.out]; rfl, rfl⟩
        · have HN := Lib.hid (HA.out.next ht)
          go_wp2_with fail
          refine (limb_any w HX.out k (by omega)).mono ?_
          rintro e w' ⟨rfl, rfl⟩
          go_wp2_with fail
          refine (limb_any w HY.out k (by omega)).mono ?_
          rintro e w' ⟨rfl, rfl⟩
          clear ht
          go_wp2_with fail
          refine ⟨⟨k, by omega, HN.out, rfl⟩, by simp [intOf]⟩
        · have HF := Lib.hid (cmpN_gt (HA.out.symm.lt BY.out ht))
          have Ht : ((gd ys k : Nat) : Int) < ((gd xs k : Nat) : Int) := by omega
          have Hd : decide (((gd xs k : Nat) : Int) < ((gd ys k : Nat) : Int)) = false := by simp only [decide_eq_false_iff_not]; omega
          clear ht
          go_wp2_with fail
          refine (limb_any w HX.out k (by omega)).mono ?_
          rintro e w' ⟨rfl, rfl⟩
          go_wp2_with fail
          refine (limb_any w HY.out k (by omega)).mono ?_
          rintro e w' ⟨rfl, rfl⟩
          go_wp2_with fail
          go_ret
          exact ⟨by rw [HF.out]; rfl, rfl⟩
end Go.Proofs.YtdmglajfmfjmlaaGreat
namespace Go.Proofs.YtdmglajfmfjmlaaGreat
set_option linter.unusedSimpArgs false
set_option linter.unusedVariables false
set_option maxRecDepth 100000
open Go.RowKit
set_option maxHeartbeats 400000 in
theorem trim_any (w : World) {A : Option Addr} {n c x : Nat} (hx : NA w A n c x) (hn : n ≤ 1048576) :
    Calls Tryz.prog 126 #[.slice A n c] w (RetN x w) := by
  obtain ⟨xs, hx, bx, rfl⟩ := hx
  obtain ⟨i0, hi0, hz0, hz1, hz2⟩ := info_parts u64_info
  have hmax := hx.max
  have hcap := hx.cap
  have HX := Lib.hid hx
  have BX := Lib.hid bx
  clear hx bx
  go_enter Tryz.func126, Tryz.ntmps126
  go_wp2
  go_loop [3] (fun i => ∃ k : Nat, k ≤ n ∧ nv (xs.take k) = nv xs ∧ i = .int .i64 (k : Int)) (fun i => (intOf i).toNat)
  case atStart => exact ⟨n, Nat.le_refl _, by rw [List.take_of_length_le (by rw [HX.out.len]; exact Nat.le_refl _)], rfl⟩
  case round =>
    obtain ⟨k, hk, hv, rfl⟩ := hrel
    by_cases hk0 : k = 0
    · subst hk0
      have HT : Rd .u64 w A 0 c [] := Rd.nil _ _ _ _
      have HF := Lib.hid (show nv xs = 0 by rw [← hv]; rfl)
      clear hv
      go_wp2_with (at_builtin; refine wpList_append_rd _ rfl (.const (.slice none 0 0)) (.tmp 20) _ rfl .u64 w.heap.size 23 i0 (.int .u64 0) 8 Tryz.underlying22 hi0 hz0 hz1 hz2 rfl none 0 0 [] rfl (Own.nil _ _ _ _) _ _ _ _ rfl HT (by simp only [maxLen]; omega) (by omega) (Nat.le_refl _) ?_)
      intro A' c' w' ho hb _ _
      go_wp2_with fail
      go_ret
      refine ⟨A', c', ?_, ?_, hb⟩
      · rw [HF.out, ln_zero]; rfl
      · rw [HF.out, ln_zero, limbs_zero]; exact ho
    · obtain ⟨k, rfl⟩ : ∃ j, k = j + 1 := ⟨k - 1, by omega⟩
      obtain ⟨ad, rfl, hb, hc⟩ := HX.out.form (by omega)
      have ek : ((k + 1 : Nat) : Int) - 1 = (k : Int) := by omega
      have hx := hc k (by omega)
      have hv' := Lib.hid hv
      clear hc hv hk0
      by_cases h0 : gd xs k = 0
      · have HM := Lib.hid (trim_more h0 hv'.out)
        rw [h0] at hx
        have h0' : (((k + 1 : Nat) : Int) == 0) = false := by simp; omega
        clear h0
        go_wp2_with fail
        refine ⟨⟨k, by omega, HM.out, ?_⟩, ?_⟩
        · first | rfl | (congr 1; omega)
        · simp [intOf]
      · have HD := Lib.hid (trim_done BX.out (by rw [HX.out.len]; omega) h0 hv'.out)
        have h0' : (((gd xs k : Nat) : Int) == 0) = false := by simp; omega
        clear h0
        have HT : Rd .u64 w (some ad) (k + 1) c (xs.take (k + 1)) := HX.out.take (by omega)
        go_wp2_with (at_builtin; refine wpList_append_rd _ rfl (.const (.slice none 0 0)) (.tmp 20) _ rfl .u64 w.heap.size 23 i0 (.int .u64 0) 8 Tryz.underlying22 hi0 hz0 hz1 hz2 rfl none 0 0 [] rfl (Own.nil _ _ _ _) _ _ _ _ rfl HT (by simp only [maxLen]; omega) (by omega) (Nat.le_refl _) ?_)
        intro A' c' w' ho hb _ _
        go_wp2_with fail
        go_ret
        have hl : ln (nv xs) = k + 1 := by unfold ln; rw [HD.out, List.length_take, HX.out.len]; omega
        refine ⟨A', c', ?_, ?_, by assumption⟩
        · rw [hl]; rfl
        · rw [hl, HD.out]; simpa using ho
end Go.Proofs.YtdmglajfmfjmlaaGreat
namespace Go.Proofs
open Go.Shelf
def YtdmglajfmfjmlaaGreat.lays134_ren : Go.Shelf.Ren := ⟨fun | 134 => 149 | 129 => 186 | n => n, fun | 53 => 23 | 3 => 3 | 4 => 4 | 46 => 114 | 5 => 5 | 9 => 9 | n => n, fun | n => n⟩
theorem YtdmglajfmfjmlaaGreat.lays134 : Go.Proofs.Lays.n134 Tryz.prog YtdmglajfmfjmlaaGreat.lays134_ren := {
  mixed := by kernel_rfl
  f129 := Tryz.func186.trans (congrArg some (by kernel_rfl))
  f134 := Tryz.func149.trans (congrArg some (by kernel_rfl))
  t3 := Tryz.underlying3
  a3 := Tryz.isAgg3
  z3 := Tryz.sizeOf3
  v3 := Tryz.zeroValue3
  t4 := Tryz.underlying4
  a4 := Tryz.isAgg4
  z4 := Tryz.sizeOf4
  v4 := Tryz.zeroValue4
  t5 := Tryz.underlying5
  a5 := Tryz.isAgg5
  z5 := Tryz.sizeOf5
  v5 := Tryz.zeroValue5
  t9 := Tryz.underlying9
  a9 := Tryz.isAgg9
  z9 := Tryz.sizeOf9
  v9 := Tryz.zeroValue9
  t46 := Tryz.underlying114
  a46 := Tryz.isAgg114
  z46 := Tryz.sizeOf114
  v46 := Tryz.zeroValue114
  t53 := Tryz.underlying23
  a53 := Tryz.isAgg23
  z53 := Tryz.sizeOf23
  v53 := Tryz.zeroValue23 }
theorem YtdmglajfmfjmlaaGreat.bits_LeadingZeros64 (x : Int) (w : World) (h0 : 0 ≤ x) (h1 : x ≤ 18446744073709551615) :
    Calls Tryz.prog 149 #[.int .u64 x] w fun e w' => e = .returned (.int .i64 (64 - (Lib.bitLen x.toNat : Int))) ∧ w' = w := Any.bits_LeadingZeros64 YtdmglajfmfjmlaaGreat.lays134 x w h0 h1
def YtdmglajfmfjmlaaGreat.lays264_ren : Go.Shelf.Ren := ⟨fun | 264 => 129 | n => n, fun | 53 => 23 | 46 => 114 | n => n, fun | n => n⟩
theorem YtdmglajfmfjmlaaGreat.lays264 : Go.Proofs.Lays.n264 Tryz.prog YtdmglajfmfjmlaaGreat.lays264_ren := {
  mixed := by kernel_rfl
  f264 := Tryz.func129.trans (congrArg some (by kernel_rfl))
  t46 := Tryz.underlying114
  a46 := Tryz.isAgg114
  z46 := Tryz.sizeOf114
  v46 := Tryz.zeroValue114
  t53 := Tryz.underlying23
  a53 := Tryz.isAgg23
  z53 := Tryz.sizeOf23
  v53 := Tryz.zeroValue23 }
open Go.RowKit Go.Lib in
theorem YtdmglajfmfjmlaaGreat.bits_Mul64 (x y : Nat) (hx : x < 18446744073709551616) (hy : y < 18446744073709551616) (w : World) :
    Calls Tryz.prog 129 #[.int .u64 x, .int .u64 y] w fun e w' => e = .returned (.tuple #[.int .u64 ((x * y / 18446744073709551616 : Nat) : Int), .int .u64 ((x * y % 18446744073709551616 : Nat) : Int)]) ∧ w' = w := Any.bits_Mul64 YtdmglajfmfjmlaaGreat.lays264 x y hx hy w
end Go.Proofs
namespace Go.Proofs.YtdmglajfmfjmlaaGreat
set_option linter.unusedSimpArgs false
set_option linter.unusedVariables false
set_option maxRecDepth 100000
open Go.RowKit
theorem run_add (x y c : Nat) (hc : c ≤ 1) (w : World) : (callFunc 130 #[.int .u64 (x : Int), .int .u64 (y : Int), .int .u64 (c : Int)]).run Tryz.prog w = .ok (.value (.tuple #[.int .u64 (((x + y + c) % 18446744073709551616 : Nat) : Int), .int .u64 (((x + y + c) / 18446744073709551616 : Nat) : Int)])) w := by
  rw [run_callFunc_extern (e := add64Entry) Tryz.func130 (by rfl) (by rfl) (by kernel_rfl) (by kernel_rfl), run_add64 _ _ _ (by omega) (by omega) (by omega) (by omega)]
  rfl
def sub64Entry : Array Value → Sem Value := fun args => do
  let (x, y, b) ← Extern.MathBitsCarry.three "Sub64" args
  pure (Extern.MathBitsCarry.pair ((x + Extern.MathBitsCarry.m64 - y - b) % Extern.MathBitsCarry.m64) (if x < y + b then 1 else 0))
theorem run_sub (x y c : Nat) (hc : c ≤ 1) (w : World) : (callFunc 159 #[.int .u64 (x : Int), .int .u64 (y : Int), .int .u64 (c : Int)]).run Tryz.prog w = .ok (.value (.tuple #[.int .u64 (((x + 18446744073709551616 - y - c) % 18446744073709551616 : Nat) : Int), .int .u64 (((if x < y + c then 1 else 0 : Nat)) : Int)])) w := by
  rw [run_callFunc_extern (e := sub64Entry) Tryz.func159 (by rfl) (by rfl) (by kernel_rfl) (by kernel_rfl)]
  rcases (show c = 0 ∨ c = 1 by omega) with rfl | rfl <;> rfl
theorem run_mk (n : Nat) (hn : n ≤ 4194304) (w : World) : (Instr.makeSlice 22 (.int .i64 (n : Int)) (.int .i64 (n : Int))).run Tryz.prog w = .ok (.slice (some ⟨w.heap.size, 0, none⟩) n n) (w.alloc (.cells (va .u64 (List.replicate n 0)) 23)) := by
  obtain ⟨i0, hi0, hz0, hz1, hz2⟩ := info_parts u64_info
  have h := run_make (P := Tryz.prog) w 22 23 i0 (.int .u64 0) Tryz.underlying22 hi0 hz0 .i64 .i64 n n (by omega) (by omega) (by rw [hz2]; omega) (by omega)
  rw [h, hz1]
  simp only [Int.toNat_natCast, Nat.mul_one]
  rw [show (Value.int IntKind.u64 0).cells = #[.int .u64 0] from rfl, made_va]
theorem nv_take_set {xs : List Nat} {k y : Nat} (h : k < xs.length) : nv ((xs.set k y).take (k + 1)) = nv (xs.take k) + 18446744073709551616 ^ k * y := by
  rw [nv_take, gd_set_self h]
  congr 2
  rw [List.take_set, List.set_eq_of_length_le (by rw [List.length_take]; omega)]
theorem add_step {S x y c s d P X Y : Nat} (hs : s = (x + y + c) % 18446744073709551616) (hd : d = (x + y + c) / 18446744073709551616) (h : S + P * c = X + Y) : S + P * s + P * 18446744073709551616 * d = X + P * x + (Y + P * y) := by
  have e : x + y + c = s + 18446744073709551616 * d := by rw [hs, hd]; omega
  have e2 := congrArg (P * ·) e
  simp only [Nat.mul_add] at e2
  rw [← Nat.mul_assoc] at e2
  omega
theorem RetN.lift {m : Nat} {w w1 w' : World} {e : Ending} (h : RetN m w1 e w') (hb : Below w.heap.size w w1) : RetN m w e w' := by
  obtain ⟨A, c, h1, h2, h3⟩ := h
  exact ⟨A, c, h1, h2.lower hb.size, hb.trans (h3.mono hb.size)⟩
set_option maxHeartbeats 400000 in
theorem of_any (w : World) (x : Nat) (hx : x < 18446744073709551616) :
    Calls Tryz.prog 57 #[.int .u64 x] w (RetN x w) := by
  have hn : NA (w.alloc (.cells #[.int .u64 (x : Int)] 23)) (some ⟨w.heap.size, 0, none⟩) 1 1 x := by
    refine ⟨[x], (Own.of_bk (k := .u64) (xs := [x]) (base := 0) (Bk.new w 23 (va .u64 [x])) (by omega) rfl (by simp)).rd, B64.cons hx B64.nil, by simp [nv]⟩
  go_enter Tryz.func57, Tryz.ntmps57
  go_wp2_with fail
  refine (trim_any _ hn (by omega)).mono ?_
  rintro e w' h
  have h := h.lift ((Below.refl _ _).alloc (Nat.le_refl _) _)
  obtain ⟨A, c, rfl, ho, hb⟩ := h
  go_wp2_with fail
  go_ret
  exact ⟨A, c, rfl, ho, hb⟩
set_option maxHeartbeats 400000 in
theorem add_any (w : World) {A B : Option Addr} {n c m d x y : Nat} (hx : NA w A n c x) (hy : NA w B m d y) (hn : n ≤ 1048575) (hm : m ≤ 1048575) :
    Calls Tryz.prog 99 #[.slice A n c, .slice B m d] w (RetN (x + y) w) := by
  obtain ⟨xs, hx, bx, rfl⟩ := hx
  obtain ⟨ys, hy, by', rfl⟩ := hy
  obtain ⟨N, hN, hN1, hN2, hmax⟩ : ∃ N : Nat, N ≤ 1048575 ∧ n ≤ N ∧ m ≤ N ∧ max (n : Int) m = N := ⟨max n m, by omega, by omega, by omega, by omega⟩
  have HX := Lib.hid hx
  have HY := Lib.hid hy
  have BX := Lib.hid bx
  have BY := Lib.hid by'
  have hmk := fun w => run_mk (N + 1) (by omega) w
  rw [show ((N + 1 : Nat) : Int) = (N : Int) + 1 from rfl] at hmk
  clear hx hy bx by'
  go_enter Tryz.func99, Tryz.ntmps99
  go_wp2_with fail
  go_loopw [7, 18] (fun cv i wr => ∃ (k cy : Nat) (zs : List Nat), k ≤ N ∧ cy ≤ 1 ∧ i = .int .i64 (k : Int) ∧ cv = .int .u64 (cy : Int) ∧ zs.length = N + 1 ∧ B64 zs ∧ Bk wr w.heap.size 23 (va .u64 zs) ∧ Below w.heap.size w wr ∧ nv (zs.take k) + 18446744073709551616 ^ k * cy = nv (xs.take k) + nv (ys.take k)) (fun _ i _ => N - (intOf i).toNat)
  case atStart => exact ⟨0, 0, List.replicate (N + 1) 0, by omega, by omega, rfl, rfl, by simp, B64.replicate _, Bk.new _ _ _, (Below.refl _ _).alloc (Nat.le_refl _) _, by simp [nv]⟩
  case round =>
    obtain ⟨k, cy, zs, hk, hcy, rfl, rfl, hzl, bz, bk, hbl, hinv⟩ := hrel
    have HI := Lib.hid hinv
    clear hinv
    by_cases hlt : k < N
    · have hcell := (bk.cell k).trans (va_at .u64 (by omega))
      have hfr := bk.frozen k
      have hadd := run_add (gd xs k) (gd ys k) cy hcy
      obtain ⟨s, hs⟩ : ∃ s, (gd xs k + gd ys k + cy) % 18446744073709551616 = s := ⟨_, rfl⟩
      obtain ⟨q, hq⟩ : ∃ q, (gd xs k + gd ys k + cy) / 18446744073709551616 = q := ⟨_, rfl⟩
      rw [hs, hq] at hadd
      have HS := Lib.hid hs
      have HQ := Lib.hid hq
      have hbk := Lib.hid (bk.set k (.int .u64 (s : Int)))
      have Bk' := Lib.hid bk
      clear hs hq bk
      go_wp2_with fail
      refine (limb_any wr (HX.out.below hbl) k (by omega)).mono ?_
      rintro e w' ⟨rfl, rfl⟩
      go_wp2_with fail
      refine (limb_any wr (HY.out.below hbl) k (by omega)).mono ?_
      rintro e w' ⟨rfl, rfl⟩
      go_wp2_with fail
      have hgx := BX.out.gd k
      have hgy := BY.out.gd k
      refine ⟨⟨k + 1, q, zs.set k s, by omega, ?_, by go_num, rfl, by simpa using hzl, bz.set ?_, ?_, ?_, ?_⟩, by simp [intOf]; omega⟩
      · rw [← HQ.out]; omega
      · rw [← HS.out]; exact Nat.mod_lt _ (by omega)
      · rw [← va_set]; exact hbk.out
      · (repeat (first | (with_reducible exact Below.refl _ _) | (with_reducible assumption) | (with_reducible refine Below.drew ?_) | (with_reducible refine below_drewN ?_ _) | ((with_reducible refine Below.setCell ?_ (p := ⟨_, _, _⟩) ?_ _); rotate_left; (simp <;> omega)) | ((with_reducible refine Below.alloc ?_ ?_ _); rotate_left; (simp <;> omega)) | ((with_reducible refine Below.trans ?_ (Below.mono (by with_reducible assumption) ?_)); rotate_left; (simp <;> omega))))
      · rw [nv_take_set (by omega), nv_take, nv_take, Nat.pow_succ]
        exact add_step HS.out.symm HQ.out.symm HI.out
    · obtain rfl : N = k := by omega
      have hcell := (bk.cell N).trans (va_at .u64 (by omega))
      have hfr := bk.frozen N
      have hbk := bk.set N (.int .u64 (cy : Int))
      rw [va_set] at hbk
      have hB2 : Below w.heap.size w (wr.setCell ⟨w.heap.size, N, none⟩ (.int .u64 (cy : Int))) := by (repeat (first | (with_reducible exact Below.refl _ _) | (with_reducible assumption) | (with_reducible refine Below.drew ?_) | (with_reducible refine below_drewN ?_ _) | ((with_reducible refine Below.setCell ?_ (p := ⟨_, _, _⟩) ?_ _); rotate_left; (simp <;> omega)) | ((with_reducible refine Below.alloc ?_ ?_ _); rotate_left; (simp <;> omega)) | ((with_reducible refine Below.trans ?_ (Below.mono (by with_reducible assumption) ?_)); rotate_left; (simp <;> omega))))
      have hna : NA (wr.setCell ⟨w.heap.size, N, none⟩ (.int .u64 (cy : Int))) (some ⟨w.heap.size, 0, none⟩) (N + 1) (N + 1) (nv xs + nv ys) := by
        refine ⟨zs.set N cy, (Own.of_bk (base := 0) hbk (by omega) (by simpa using hzl) (by omega)).rd, bz.set (by omega), ?_⟩
        have e := nv_take_set (xs := zs) (k := N) (y := cy) (by omega)
        rw [List.take_of_length_le (by simp; omega), HI.out, List.take_of_length_le (by rw [HX.out.len]; omega), List.take_of_length_le (by rw [HY.out.len]; omega)] at e
        exact e
      have HB2 := Lib.hid hB2
      have HNA := Lib.hid hna
      clear hbk hna hB2
      go_wp2_with fail
      refine (trim_any _ HNA.out (by omega)).mono ?_
      rintro e w' h
      have h := h.lift HB2.out
      obtain ⟨A, c, rfl, ho, hb⟩ := h
      go_wp2_with fail
      go_ret
      exact ⟨A, c, rfl, ho, hb⟩
end Go.Proofs.YtdmglajfmfjmlaaGreat
namespace Go.Proofs.YtdmglajfmfjmlaaGreat
set_option linter.unusedSimpArgs false
set_option linter.unusedVariables false
set_option maxRecDepth 100000
open Go.RowKit
def RetNE (m : Nat) (er : Int) (w : World) (e : Ending) (w' : World) : Prop := ∃ A c, e = .returned (.tuple #[.slice A (ln m) c, .int .i64 er]) ∧ Own .u64 23 w' w.heap.size A (ln m) c (limbs m) ∧ Below w.heap.size w w'
theorem sub_step {x y c s d P X Y Z : Nat} (hx : x < 18446744073709551616) (hy : y < 18446744073709551616) (hc : c ≤ 1) (hs : s = (x + 18446744073709551616 - y - c) % 18446744073709551616) (hd : d = if x < y + c then 1 else 0) (h : X + P * c = Z + Y) : X + P * x + P * 18446744073709551616 * d = Z + P * s + (Y + P * y) := by
  have e : x + 18446744073709551616 * d = s + y + c := by
    by_cases hlt : x < y + c
    · rw [if_pos hlt] at hd; subst hd; omega
    · rw [if_neg hlt] at hd; subst hd; omega
  have e2 := congrArg (P * ·) e
  simp only [Nat.mul_add] at e2
  rw [← Nat.mul_assoc] at e2
  omega
theorem sub_end {X Y Yt Yd Z P c : Nat} (hY : Y = Yt + P * Yd) (hle : Y ≤ X) (hX : X < P) (hZ : Z < P) (hc : c ≤ 1) (h : X + P * c = Z + Yt) : Z = X - Y := by
  have h0 : Yd = 0 := by
    rcases Nat.eq_zero_or_pos Yd with h | h
    · exact h
    · have := Nat.mul_le_mul_left P h; omega
  subst h0
  rcases (show c = 0 ∨ c = 1 by omega) with rfl | rfl <;> simp at * <;> omega
set_option maxHeartbeats 400000 in
theorem sub_any (w : World) {A B : Option Addr} {n c m d x y : Nat} (hx : NA w A n c x) (hy : NA w B m d y) (hn : n ≤ 1048576) (hm : m ≤ 1048576) :
    Calls Tryz.prog 94 #[.slice A n c, .slice B m d] w (RetNE (x - y) (if x < y then 10 else 0) w) := by
  by_cases hxy : x < y
  · have hd : decide (cmpN x y < 0) = true := by rw [cmpN_lt hxy]; rfl
    have HF := Lib.hid (show x - y = 0 by omega)
    rw [if_pos hxy]
    have HG := Lib.hid hxy
    have HX := Lib.hid hx
    have HY := Lib.hid hy
    clear hxy hx hy
    go_enter Tryz.func94, Tryz.ntmps94
    go_wp2_with fail
    refine (cmp_any w HX.out HY.out hn hm).mono ?_
    rintro e w' ⟨rfl, rfl⟩
    go_wp2_with fail
    go_ret2
    refine ⟨none, 0, ?_, ?_, Below.refl _ _⟩
    · rw [HF.out, ln_zero]; rfl
    · rw [HF.out, ln_zero, limbs_zero]; exact Own.nil _ _ _ _
  · have hd : decide (cmpN x y < 0) = false := by
      by_cases e : x = y
      · rw [cmpN_eq e]; rfl
      · rw [cmpN_gt (by omega)]; rfl
    rw [if_neg hxy]
    have HG := Lib.hid hxy
    have HNX := Lib.hid hx
    have HNY := Lib.hid hy
    obtain ⟨xs, hx, bx, rfl⟩ := hx
    obtain ⟨ys, hy, by', rfl⟩ := hy
    have HX := Lib.hid hx
    have HY := Lib.hid hy
    have BX := Lib.hid bx
    have BY := Lib.hid by'
    have hmk := fun w => run_mk n (by omega) w
    clear hx hy bx by' hxy
    go_enter Tryz.func94, Tryz.ntmps94
    go_wp2_with fail
    refine (cmp_any w HNX.out HNY.out hn hm).mono ?_
    rintro e w' ⟨rfl, rfl⟩
    go_wp2_with fail
    go_loopw [7, 18] (fun cv i wr => ∃ (k cy : Nat) (zs : List Nat), k ≤ n ∧ cy ≤ 1 ∧ i = .int .i64 (k : Int) ∧ cv = .int .u64 (cy : Int) ∧ zs.length = n ∧ B64 zs ∧ Bk wr w.heap.size 23 (va .u64 zs) ∧ Below w.heap.size w wr ∧ nv (xs.take k) + 18446744073709551616 ^ k * cy = nv (zs.take k) + nv (ys.take k)) (fun _ i _ => n - (intOf i).toNat)
    case atStart => exact ⟨0, 0, List.replicate n 0, by omega, by omega, rfl, rfl, by simp, B64.replicate _, Bk.new _ _ _, (Below.refl _ _).alloc (Nat.le_refl _) _, by simp [nv]⟩
    case round =>
      obtain ⟨k, cy, zs, hk, hcy, rfl, rfl, hzl, bz, bk, hbl, hinv⟩ := hrel
      have HI := Lib.hid hinv
      clear hinv
      by_cases hlt : k < n
      · obtain ⟨ad, rfl, hb, hc⟩ := HX.out.form (by omega)
        have hxo := hc k hlt
        have hxc := (hbl.cell (p := ad.add k) (adlt hb k)).trans (hc k hlt)
        have hcell := (bk.cell k).trans (va_at .u64 (by omega))
        have hfr := bk.frozen k
        have hsub := run_sub (gd xs k) (gd ys k) cy hcy
        obtain ⟨s, hs⟩ : ∃ s, (gd xs k + 18446744073709551616 - gd ys k - cy) % 18446744073709551616 = s := ⟨_, rfl⟩
        obtain ⟨q, hq⟩ : ∃ q : Nat, (if gd xs k < gd ys k + cy then 1 else 0) = q := ⟨_, rfl⟩
        rw [hs, hq] at hsub
        have HS := Lib.hid hs
        have HQ := Lib.hid hq
        have hbk := Lib.hid (bk.set k (.int .u64 (s : Int)))
        clear hs hq bk hc
        go_wp2_with fail
        have hk4 : k ≤ 4611686018427387904 := by omega
        have S0 : wr.drew.cell? (ad.add k) = some (.int .u64 ((gd xs k : Nat) : Int)) ∧ Hid (Rd .u64 wr.drew B m d ys) ∧ Hid (∃ v, wr.drew.cell? ⟨w.heap.size, k, none⟩ = some v) := ⟨hxc, (HY.out.below hbl).drew, ⟨_, hcell⟩⟩
        have hBs : Below w.heap.size w (wr.setCell ⟨w.heap.size, k, none⟩ (.int .u64 (s : Int))).drew := by (repeat (first | (with_reducible exact Below.refl _ _) | (with_reducible assumption) | (with_reducible refine Below.drew ?_) | (with_reducible refine below_drewN ?_ _) | ((with_reducible refine Below.setCell ?_ (p := ⟨_, _, _⟩) ?_ _); rotate_left; (simp <;> omega)) | ((with_reducible refine Below.alloc ?_ ?_ _); rotate_left; (simp <;> omega)) | ((with_reducible refine Below.trans ?_ (Below.mono (by with_reducible assumption) ?_)); rotate_left; (simp <;> omega))))
        have S1 : (wr.setCell ⟨w.heap.size, k, none⟩ (.int .u64 (s : Int))).drew.cell? (ad.add k) = some (.int .u64 ((gd xs k : Nat) : Int)) ∧ Hid (Rd .u64 (wr.setCell ⟨w.heap.size, k, none⟩ (.int .u64 (s : Int))).drew B m d ys) ∧ Hid (∃ v, (wr.setCell ⟨w.heap.size, k, none⟩ (.int .u64 (s : Int))).drew.cell? ⟨w.heap.size, k, none⟩ = some v) :=
          ⟨(hBs.cell (p := ad.add k) (adlt hb k)).trans hxo, HY.out.below hBs, ⟨_, World.cell?_setCell_same _ _ _ hcell⟩⟩
        go_region_held3 (fun w' => w'.cell? (ad.add k) = some (.int .u64 ((gd xs k : Nat) : Int)) ∧ Hid (Rd .u64 w' B m d ys) ∧ Hid (∃ v, w'.cell? ⟨w.heap.size, k, none⟩ = some v))
          (first | exact S0 | exact S1)
          ((go_at_call 127; refine (limb_any wr.drew S0.2.1 k hk4).mono ?_; rintro e w' ⟨rfl, rfl⟩))
        have hgx := BX.out.gd k
        have hgy := BY.out.gd k
        clear S0 S1
        go_wp2_with fail
        refine ⟨⟨k + 1, q, zs.set k s, by omega, ?_, by go_num, rfl, by simpa using hzl, bz.set ?_, ?_, ?_, ?_⟩, by simp [intOf]; omega⟩
        · rw [← HQ.out]; split <;> omega
        · rw [← HS.out]; exact Nat.mod_lt _ (by omega)
        · rw [← va_set]; exact hbk.out
        · exact hBs
        · rw [nv_take_set (by omega), nv_take, nv_take, Nat.pow_succ]
          exact sub_step hgx hgy hcy HS.out.symm HQ.out.symm HI.out
      · obtain rfl : n = k := by omega
        have hna : NA wr (some ⟨w.heap.size, 0, none⟩) n n (nv xs - nv ys) := by
          refine ⟨zs, (Own.of_bk (base := 0) bk (by omega) hzl (by omega)).rd, bz, ?_⟩
          have e := HI.out
          rw [List.take_of_length_le (by rw [HX.out.len]; omega), List.take_of_length_le (show zs.length ≤ n by omega)] at e
          have hX := nv_lt BX.out
          rw [HX.out.len] at hX
          have hZ := nv_lt bz
          rw [hzl] at hZ
          have hY : nv ys = nv (ys.take n) + 18446744073709551616 ^ n * nv (ys.drop n) := by
            rcases Nat.le_total n ys.length with h | h
            · exact nv_split ys n h
            · rw [List.take_of_length_le h, List.drop_eq_nil_of_le h]; simp [nv]
          exact sub_end hY (by have := HG.out; omega) hX hZ hcy e
        have HNA := Lib.hid hna
        clear hna bk
        go_wp2_with fail
        refine (trim_any _ HNA.out hn).mono ?_
        rintro e w' h
        have h := h.lift hbl
        obtain ⟨A', c', rfl, ho, hb⟩ := h
        go_wp2_with fail
        go_ret2
        exact ⟨A', c', rfl, ho, hb⟩
end Go.Proofs.YtdmglajfmfjmlaaGreat
namespace Go.Proofs.YtdmglajfmfjmlaaGreat
set_option linter.unusedSimpArgs false
set_option linter.unusedVariables false
set_option maxRecDepth 100000
open Go.RowKit
theorem mul_digit {x y o c h l l1 c1 h1 s c2 c' : Nat} (hx : x < 18446744073709551616) (hy : y < 18446744073709551616) (ho : o < 18446744073709551616) (hc : c < 18446744073709551616)
    (eh : x * y / 18446744073709551616 = h) (el : x * y % 18446744073709551616 = l) (e1 : (l + o + 0) % 18446744073709551616 = l1) (e2 : (l + o + 0) / 18446744073709551616 = c1) (e3 : h + c1 = h1)
    (e4 : (l1 + c + 0) % 18446744073709551616 = s) (e5 : (l1 + c + 0) / 18446744073709551616 = c2) (e6 : h1 + c2 = c') :
    x * y + o + c = s + 18446744073709551616 * c' ∧ c' < 18446744073709551616 ∧ h1 < 18446744073709551616 ∧ s < 18446744073709551616 ∧ c1 ≤ 1 ∧ c2 ≤ 1 := by
  have hm : x * y ≤ 18446744073709551615 * 18446744073709551615 := Nat.mul_le_mul (by omega) (by omega)
  generalize x * y = p at *
  omega
theorem mul_step {S P c Z0 X Yt x y o s c' : Nat} {Q : Nat} (hd : x * y + o + c = s + 18446744073709551616 * c') (h : S + P * Q * c = Z0 + P * (X * Yt)) (hX : X = x) :
    S + P * Q * s + P * (Q * 18446744073709551616) * c' = Z0 + P * Q * o + P * (X * (Yt + Q * y)) := by
  subst hX
  have e := congrArg (P * Q * ·) hd
  simp only [Nat.mul_add] at e
  have e1 : P * Q * (X * y) = P * (X * (Q * y)) := by rw [Nat.mul_assoc P Q, Nat.mul_left_comm Q X y]
  have e2 : P * Q * (18446744073709551616 * c') = P * (Q * 18446744073709551616) * c' := by rw [← Nat.mul_assoc, Nat.mul_assoc P Q]
  rw [Nat.mul_add X, Nat.mul_add P]
  rw [e1, e2] at e
  omega
def MulIn (zs z0 ys : List Nat) (x i j c : Nat) : Prop :=
  nv (zs.take (i + j)) + 18446744073709551616 ^ i * 18446744073709551616 ^ j * c = nv (z0.take (i + j)) + 18446744073709551616 ^ i * (x * nv (ys.take j)) ∧ ∀ t, i + j ≤ t → gd zs t = gd z0 t
theorem MulIn.zero (z0 ys : List Nat) (x i : Nat) : MulIn z0 z0 ys x i 0 0 := ⟨by simp [nv], fun _ _ => rfl⟩
theorem MulIn.next {zs z0 ys : List Nat} {x i j c s c' : Nat} (h : MulIn zs z0 ys x i j c) (hl : i + j < zs.length) (hd : x * gd ys j + gd zs (i + j) + c = s + 18446744073709551616 * c') : MulIn (zs.set (i + j) s) z0 ys x i (j + 1) c' := by
  obtain ⟨h1, h2⟩ := h
  refine ⟨?_, fun t ht => ?_⟩
  · rw [← Nat.add_assoc, nv_take_set hl, nv_take z0, nv_take ys, Nat.pow_add, Nat.pow_succ, ← h2 (i + j) (Nat.le_refl _)]
    exact mul_step hd h1 rfl
  · rw [gd_set (by omega)]; exact h2 t (by omega)
theorem MulIn.done {zs z0 xs ys : List Nat} {i m c : Nat} (h : MulIn zs z0 ys (gd xs i) i m c) (hl : i + m < zs.length) (hm : ys.length = m) (h0 : nv (z0.take (i + m)) = nv (xs.take i) * nv ys) : nv ((zs.set (i + m) c).take (i + 1 + m)) = nv (xs.take (i + 1)) * nv ys := by
  obtain ⟨h1, _⟩ := h
  rw [show i + 1 + m = i + m + 1 by omega, nv_take_set hl, nv_take xs, Nat.pow_add, h1, h0, List.take_of_length_le (l := ys) (by omega), Nat.add_mul, Nat.mul_assoc]
set_option maxHeartbeats 1000000 in
theorem mul_any (w : World) {A B : Option Addr} {n c m d x y : Nat} (hx : NA w A n c x) (hy : NA w B m d y) (hn : n ≤ 524288) (hm : m ≤ 524288) :
    Calls Tryz.prog 61 #[.slice A n c, .slice B m d] w (RetN (x * y) w) := by
  obtain ⟨xs, hx, bx, rfl⟩ := hx
  obtain ⟨ys, hy, by', rfl⟩ := hy
  have HX := Lib.hid hx
  have HY := Lib.hid hy
  have BX := Lib.hid bx
  have BY := Lib.hid by'
  have hmk := fun w => run_mk (n + m) (by omega) w
  rw [show ((n + m : Nat) : Int) = (n : Int) + (m : Int) from rfl] at hmk
  clear hx hy bx by'
  go_enter Tryz.func61, Tryz.ntmps61
  go_wp2_with fail
  go_loopw [22] (fun i wr => ∃ (k : Nat) (zs : List Nat), k ≤ n ∧ i = .int .i64 (k : Int) ∧ zs.length = n + m ∧ B64 zs ∧ Bk wr w.heap.size 23 (va .u64 zs) ∧ Below w.heap.size w wr ∧ nv (zs.take (k + m)) = nv (xs.take k) * nv ys) (fun i _ => n - (intOf i).toNat)
  case atStart => exact ⟨0, List.replicate (n + m) 0, by omega, rfl, by simp, B64.replicate _, Bk.new _ _ _, (Below.refl _ _).alloc (Nat.le_refl _) _, by rw [List.take_replicate, nv_replicate]; simp [nv]⟩
  case round =>
    obtain ⟨k, zs, hk, rfl, hzl, bz, bk, hbl, hinv⟩ := hrel
    have HI := Lib.hid hinv
    clear hinv
    obtain ⟨wo, rfl⟩ : ∃ wo : World, wo = wr := ⟨_, rfl⟩
    by_cases hlt : k < n
    · obtain ⟨ad, rfl, hb, hc⟩ := HX.out.form (by omega)
      have hxc := (hbl.cell (p := ad.add k) (adlt hb k)).trans (hc k hlt)
      have BKo := Lib.hid bk
      clear hc bk
      go_wp2_with fail
      go_loopw [8, 29] (fun cv j wr => ∃ (t cy : Nat) (us : List Nat), t ≤ m ∧ cy < 18446744073709551616 ∧ j = .int .i64 (t : Int) ∧ cv = .int .u64 (cy : Int) ∧ us.length = n + m ∧ B64 us ∧ Bk wr w.heap.size 23 (va .u64 us) ∧ Below w.heap.size w wr ∧ MulIn us zs ys (gd xs k) k t cy) (fun _ j _ => m - (intOf j).toNat)
      case atStart => exact ⟨0, 0, zs, by omega, by omega, rfl, rfl, hzl, bz, BKo.out, hbl, MulIn.zero _ _ _ _⟩
      case round =>
        obtain ⟨t, cy, us, ht, hcy, rfl, rfl, hul, bu, bk, hbl', hinv⟩ := hrel
        have HM := Lib.hid hinv
        clear hinv hxc
        by_cases hlt2 : t < m
        · obtain ⟨ad', rfl, hb', hc⟩ := HY.out.form (by omega)
          have hyc := (hbl'.cell (p := ad'.add t) (adlt hb' t)).trans (hc t hlt2)
          have hcell := (bk.cell (k + t)).trans (va_at .u64 (by omega))
          have hfr := bk.frozen (k + t)
          have hgx := BX.out.gd k
          have hgy := BY.out.gd t
          have hgo := bu.gd (k + t)
          obtain ⟨h, eh⟩ : ∃ h, gd xs k * gd ys t / 18446744073709551616 = h := ⟨_, rfl⟩
          obtain ⟨l, el⟩ : ∃ l, gd xs k * gd ys t % 18446744073709551616 = l := ⟨_, rfl⟩
          have hmul := YtdmglajfmfjmlaaGreat.bits_Mul64 (gd xs k) (gd ys t) hgx hgy
          rw [eh, el] at hmul
          have hadd1 := run_add l (gd us (k + t)) 0 (by omega)
          obtain ⟨l1, e1⟩ : ∃ l1, (l + gd us (k + t) + 0) % 18446744073709551616 = l1 := ⟨_, rfl⟩
          obtain ⟨c1, e2⟩ : ∃ c1, (l + gd us (k + t) + 0) / 18446744073709551616 = c1 := ⟨_, rfl⟩
          rw [e1, e2] at hadd1
          have hadd2 := run_add l1 cy 0 (by omega)
          obtain ⟨s, e4⟩ : ∃ s, (l1 + cy + 0) % 18446744073709551616 = s := ⟨_, rfl⟩
          obtain ⟨c2, e5⟩ : ∃ c2, (l1 + cy + 0) / 18446744073709551616 = c2 := ⟨_, rfl⟩
          rw [e4, e5] at hadd2
          obtain ⟨hd, hc', hh1, hs', hc1, hc2⟩ := mul_digit hgx hgy hgo hcy eh el e1 e2 rfl e4 e5 rfl
          have HD := Lib.hid hd
          have HMUL := Lib.hid hmul
          have hbk := Lib.hid (bk.set (k + t) (.int .u64 (s : Int)))
          clear hd hmul eh el e1 e2 e4 e5 bk hc hgx hgy hgo
          simp only [Int.natCast_zero] at hadd1 hadd2
          go_wp2_with fail
          refine (HMUL.out _).mono ?_
          rintro e w' ⟨rfl, rfl⟩
          go_wp2_with fail
          refine ⟨⟨t + 1, h + c1 + c2, us.set (k + t) s, by omega, hc', by go_num, by go_num, by simpa using hul, bu.set hs', ?_, ?_, HM.out.next (by omega) HD.out⟩, by simp [intOf]; omega⟩
          · rw [← va_set]; exact hbk.out
          · (repeat (first | (with_reducible exact Below.refl _ _) | (with_reducible assumption) | (with_reducible refine Below.drew ?_) | (with_reducible refine below_drewN ?_ _) | ((with_reducible refine Below.setCell ?_ (p := ⟨_, _, _⟩) ?_ _); rotate_left; (simp <;> omega)) | ((with_reducible refine Below.alloc ?_ ?_ _); rotate_left; (simp <;> omega)) | ((with_reducible refine Below.trans ?_ (Below.mono (by with_reducible assumption) ?_)); rotate_left; (simp <;> omega))))
        · obtain rfl : m = t := by omega
          have hcell := (bk.cell (k + m)).trans (va_at .u64 (by omega))
          have hfr := bk.frozen (k + m)
          have hbk := Lib.hid (bk.set (k + m) (.int .u64 (cy : Int)))
          have HDN := Lib.hid (HM.out.done (by omega) HY.out.len HI.out)
          clear bk
          go_wp2_with fail
          refine ⟨⟨k + 1, us.set (k + m) cy, by omega, by go_num, by simpa using hul, bu.set hcy, ?_, ?_, HDN.out⟩, by simp [intOf]; omega⟩
          · rw [← va_set]; exact hbk.out
          · (repeat (first | (with_reducible exact Below.refl _ _) | (with_reducible assumption) | (with_reducible refine Below.drew ?_) | (with_reducible refine below_drewN ?_ _) | ((with_reducible refine Below.setCell ?_ (p := ⟨_, _, _⟩) ?_ _); rotate_left; (simp <;> omega)) | ((with_reducible refine Below.alloc ?_ ?_ _); rotate_left; (simp <;> omega)) | ((with_reducible refine Below.trans ?_ (Below.mono (by with_reducible assumption) ?_)); rotate_left; (simp <;> omega))))
    · obtain rfl : n = k := by omega
      have hna : NA wo (some ⟨w.heap.size, 0, none⟩) (n + m) (n + m) (nv xs * nv ys) := by
        refine ⟨zs, (Own.of_bk (base := 0) bk (by omega) hzl (by omega)).rd, bz, ?_⟩
        have e := HI.out
        rw [List.take_of_length_le (by omega), List.take_of_length_le (by rw [HX.out.len]; omega)] at e
        exact e
      have HNA := Lib.hid hna
      clear hna bk
      go_wp2_with fail
      refine (trim_any _ HNA.out (by omega)).mono ?_
      rintro e w' h
      have h := h.lift hbl
      obtain ⟨A', c', rfl, ho, hb⟩ := h
      go_wp2_with fail
      go_ret
      exact ⟨A', c', rfl, ho, hb⟩
end Go.Proofs.YtdmglajfmfjmlaaGreat
namespace Go.Proofs.YtdmglajfmfjmlaaGreat
set_option linter.unusedSimpArgs false
set_option linter.unusedVariables false
set_option maxRecDepth 100000
open Go.RowKit
theorem wraps_u64 (n : Int) (h0 : 0 ≤ n) (h1 : n < 2 ^ 64) : IntKind.u64.wrap n = n := by rw [IntKind.wrap_u64]; omega
theorem wraps_i64 (n : Int) (h0 : 0 ≤ n) (h1 : n < 2 ^ 63) : IntKind.i64.wrap n = n := by rw [IntKind.wrap_i64]; omega
theorem or_u64 {a b : Nat} (ha : a < 18446744073709551616) (hb : b < 18446744073709551616) : bits .or .u64 (a : Int) (b : Int) = ((a ||| b : Nat) : Int) := (bits_nat .u64 64 (by decide) wraps_u64 a b ha hb).2
theorem and_u64 {a b : Nat} (ha : a < 18446744073709551616) (hb : b < 18446744073709551616) : bits .and .u64 (a : Int) (b : Int) = ((a &&& b : Nat) : Int) := (bits_nat .u64 64 (by decide) wraps_u64 a b ha hb).1
theorem or_apart {a b i : Nat} (hb : b < 2 ^ i) (ha : a % 2 ^ i = 0) : a ||| b = a + b := by
  have hq : a = 2 ^ i * (a / 2 ^ i) := by have := Nat.div_add_mod a (2 ^ i); omega
  rw [hq, ← Nat.two_pow_add_eq_or_of_lt hb (a / 2 ^ i)]
theorem and_mask (a i : Nat) : a &&& (2 ^ i - 1) = a % 2 ^ i := Nat.and_two_pow_sub_one_eq_mod a i
theorem wrap_u64_nat (a : Nat) : IntKind.u64.wrap (a : Int) = ((a % 18446744073709551616 : Nat) : Int) := by rw [IntKind.wrap_u64]; omega
theorem bitLen_spec (x : Nat) (h0 : x ≠ 0) (h : x < 2 ^ 64) : ∃ k, Lib.bitLen x = k + 1 ∧ k < 64 ∧ 2 ^ k ≤ x ∧ x < 2 ^ (k + 1) := by
  have key : ∀ n x : Nat, x ≠ 0 → x < 2 ^ n → n ≤ 64 → ∃ k, Lib.bitLen x = k + 1 ∧ k < n ∧ 2 ^ k ≤ x ∧ x < 2 ^ (k + 1) := by
    intro n
    induction n with
    | zero => intro x h0 h _; simp at h; omega
    | succ n ih =>
      intro x h0 h hn
      by_cases h1 : x = 1
      · subst h1; exact ⟨0, rfl, by omega, by decide, by decide⟩
      · obtain ⟨k, e, hk, h2, h3⟩ := ih (x / 2) (by omega) (by rw [Nat.pow_succ] at h; omega) (by omega)
        have hx64 : x < 2 ^ 64 := Nat.lt_of_lt_of_le h (Nat.pow_le_pow_right (by omega) hn)
        refine ⟨k + 1, by rw [Lib.bitLen_half x h0 hx64, e]; omega, by omega, ?_, ?_⟩
        · rw [Nat.pow_succ]; omega
        · rw [Nat.pow_succ] at h3 ⊢; rw [Nat.pow_succ]; omega
  exact key 64 x h0 h (Nat.le_refl _)
end Go.Proofs.YtdmglajfmfjmlaaGreat
namespace Go.Proofs.YtdmglajfmfjmlaaGreat
set_option linter.unusedSimpArgs false
set_option linter.unusedVariables false
set_option maxRecDepth 100000
def DI (U u a b q r : Nat) : Prop := q * a + r = U ∧ (U * 4294967296 + u) / (a * 4294967296 + b) ≤ q ∧ q ≤ 4294967297
section
variable {U u a b q r : Nat}
theorem dg_pos (ha : 2147483648 ≤ a) : 0 < a * 4294967296 + b := by omega
theorem DI.start (ha : 2147483648 ≤ a) (ha2 : a < 4294967296) (hb : b < 4294967296) (hU : U < a * 4294967296 + b) (hu : u < 4294967296) : DI U u a b (U / a) (U - U / a * a) := by
  have h1 := Nat.div_mul_le_self U a
  refine ⟨by omega, ?_, ?_⟩
  · rw [Nat.le_div_iff_mul_le (by omega)]
    have h2 := Nat.div_mul_le_self (U * 4294967296 + u) (a * 4294967296 + b)
    generalize (U * 4294967296 + u) / (a * 4294967296 + b) = Q at *
    rw [Nat.mul_add, ← Nat.mul_assoc] at h2
    omega
  · have : U / a < 4294967298 := by
      rw [Nat.div_lt_iff_lt_mul (by omega)]; omega
    omega
theorem DI.rest (h : DI U u a b q r) (hq : q = U / a) (ha : 2147483648 ≤ a) : r < a := by
  have := Nat.div_add_mod U a
  have h3 := Nat.mod_lt U (show 0 < a by omega)
  obtain ⟨h1, _⟩ := h
  rw [hq, Nat.mul_comm] at h1
  omega
theorem DI.great (h : DI U u a b q r) (ha : 2147483648 ≤ a) (hU : U < a * 4294967296 + b) (hu : u < 4294967296) (ht : 4294967296 ≤ q ∨ 4294967296 * r + u < q * b) : (U * 4294967296 + u) / (a * 4294967296 + b) < q := by
  obtain ⟨h1, h2, _⟩ := h
  rw [Nat.div_lt_iff_lt_mul (dg_pos ha)]
  rcases ht with ht | ht
  · have := Nat.mul_le_mul_right (a * 4294967296 + b) ht
    omega
  · rw [Nat.mul_add, ← Nat.mul_assoc]
    have e := congrArg (· * 4294967296) h1
    simp only [Nat.add_mul] at e
    omega
theorem DI.next (h : DI U u a b q r) (ha : 2147483648 ≤ a) (hU : U < a * 4294967296 + b) (hu : u < 4294967296) (ht : 4294967296 ≤ q ∨ 4294967296 * r + u < q * b) : 0 < q ∧ DI U u a b (q - 1) (r + a) ∧ q - 1 ≤ 4294967296 := by
  have hg := h.great ha hU hu ht
  obtain ⟨h1, h2, h3⟩ := h
  unfold DI
  generalize (U * 4294967296 + u) / (a * 4294967296 + b) = Q at *
  refine ⟨by omega, ⟨?_, by omega, by omega⟩, by omega⟩
  obtain ⟨p, rfl⟩ : ∃ p, q = p + 1 := ⟨q - 1, by omega⟩
  rw [Nat.add_mul] at h1
  rw [Nat.add_sub_cancel]; omega
theorem DI.right (h : DI U u a b q r) (ha : 2147483648 ≤ a) (ht : q * b ≤ 4294967296 * r + u) : q = (U * 4294967296 + u) / (a * 4294967296 + b) := by
  obtain ⟨h1, h2, _⟩ := h
  refine Nat.le_antisymm ?_ h2
  rw [Nat.le_div_iff_mul_le (dg_pos ha), Nat.mul_add, ← Nat.mul_assoc]
  have e := congrArg (· * 4294967296) h1
  simp only [Nat.add_mul] at e
  omega
theorem DI.stop (h : DI U u a b q r) (ha : 2147483648 ≤ a) (hb : b < 4294967296) (hq : q ≤ 4294967296) (hr : 4294967296 ≤ r) : q = (U * 4294967296 + u) / (a * 4294967296 + b) := by
  refine h.right ha ?_
  have := Nat.mul_le_mul hq (Nat.le_of_lt hb)
  omega
theorem dg_lt (ha : 2147483648 ≤ a) (hU : U < a * 4294967296 + b) (hu : u < 4294967296) : (U * 4294967296 + u) / (a * 4294967296 + b) < 4294967296 := by
  rw [Nat.div_lt_iff_lt_mul (dg_pos ha)]; omega
end
theorem shift_parts {hi lo y s : Nat} (hs : s ≤ 63) (hlo : lo < 18446744073709551616) (hy : hi < y) (hY : y * 2 ^ s < 18446744073709551616) :
    ((hi * 18446744073709551616 + lo) * 2 ^ s = (hi * 2 ^ s + lo / 2 ^ (64 - s)) * 18446744073709551616 + lo * 2 ^ s % 18446744073709551616) ∧ hi * 2 ^ s + lo / 2 ^ (64 - s) < y * 2 ^ s ∧ lo / 2 ^ (64 - s) < 2 ^ s ∧ hi * 2 ^ s < 18446744073709551616 := by
  have e64 : 2 ^ (64 - s) * 2 ^ s = 18446744073709551616 := by rw [← Nat.pow_add, Nat.sub_add_cancel (by omega)]
  have hp : 0 < 2 ^ (64 - s) := Nat.pow_pos (by omega)
  have hp2 : 0 < 2 ^ s := Nat.pow_pos (by omega)
  have e1 : lo * 2 ^ s / 18446744073709551616 = lo / 2 ^ (64 - s) := by rw [← e64, Nat.mul_div_mul_right _ _ hp2]
  have hL : lo / 2 ^ (64 - s) < 2 ^ s := by rw [Nat.div_lt_iff_lt_mul hp, Nat.mul_comm, e64]; exact hlo
  have h1 : (hi + 1) * 2 ^ s ≤ y * 2 ^ s := Nat.mul_le_mul_right _ hy
  rw [Nat.add_mul] at h1
  have h2 := Nat.div_add_mod (lo * 2 ^ s) 18446744073709551616
  rw [e1] at h2
  refine ⟨?_, by omega, hL, by omega⟩
  rw [Nat.add_mul, Nat.mul_assoc, Nat.mul_comm 18446744073709551616 (2 ^ s), ← Nat.mul_assoc]
  omega
theorem mrc (a b c d : Nat) : (a * b + c) * d = a * d * b + c * d := by rw [Nat.add_mul, Nat.mul_right_comm]
theorem join_parts' {B A d m P1 u P2 R : Nat} (h1 : A * B + d = P1 + u) (h2 : u * B + m = P2 + R) : A * (B * B) + (B * d + m) = P1 * B + P2 + R := by
  have h := congrArg (· * B) h1
  simp only [Nat.add_mul] at h
  rw [← Nat.mul_assoc, Nat.mul_comm B d]
  omega
theorem join_parts {A t P1 u P2 R : Nat} (h1 : A * 4294967296 + t / 4294967296 = P1 + u) (h2 : u * 4294967296 + t % 4294967296 = P2 + R) : A * 18446744073709551616 + t = P1 * 4294967296 + P2 + R := by
  have h := join_parts' h1 h2
  rw [Nat.div_add_mod] at h
  exact h
theorem div_final {hi lo y s Y un32 un10 Q1 u21 Q0 R : Nat} (hy0 : 0 < y) (hY : Y = y * 2 ^ s) (hN : (hi * 18446744073709551616 + lo) * 2 ^ s = un32 * 18446744073709551616 + un10)
    (h1 : un32 * 4294967296 + un10 / 4294967296 = Q1 * Y + u21) (h2 : u21 * 4294967296 + un10 % 4294967296 = Q0 * Y + R) (hR : R < Y) :
    (hi * 18446744073709551616 + lo) / y = Q1 * 4294967296 + Q0 ∧ (hi * 18446744073709551616 + lo) % y = R / 2 ^ s := by
  have hp2 : 0 < 2 ^ s := Nat.pow_pos (by omega)
  have hYp : 0 < Y := by rw [hY]; exact Nat.mul_pos hy0 hp2
  have e : (hi * 18446744073709551616 + lo) * 2 ^ s = (Q1 * 4294967296 + Q0) * Y + R := by
    rw [hN, mrc]
    exact join_parts h1 h2
  have q1 : (hi * 18446744073709551616 + lo) / y = Q1 * 4294967296 + Q0 := by
    rw [← Nat.mul_div_mul_right _ _ hp2, ← hY, e, Nat.add_comm, Nat.add_mul_div_right _ _ hYp, Nat.div_eq_of_lt hR, Nat.zero_add]
  refine ⟨q1, ?_⟩
  have r1 : (hi * 18446744073709551616 + lo) % y * 2 ^ s = R := by
    rw [← Nat.mul_mod_mul_right, ← hY, e, Nat.add_comm, Nat.add_mul_mod_self_right, Nat.mod_eq_of_lt hR]
  rw [← r1, Nat.mul_div_cancel _ hp2]
end Go.Proofs.YtdmglajfmfjmlaaGreat
namespace Go.Proofs.YtdmglajfmfjmlaaGreat
set_option linter.unusedSimpArgs false
set_option linter.unusedVariables false
set_option maxRecDepth 100000
open Go.RowKit
set_option maxHeartbeats 1000000 in
theorem div64_small (w : World) (lo y : Nat) (hlo : lo < 18446744073709551616) (hy : 0 < y) (hy2 : y < 18446744073709551616) :
    Calls Tryz.prog 196 #[.int .u64 0, .int .u64 lo, .int .u64 y] w fun e w' => e = .returned (.tuple #[.int .u64 ((lo / y : Nat) : Int), .int .u64 ((lo % y : Nat) : Int)]) ∧ ∃ n, w' = w.drewN n := by
  have h0 : ((y : Int) == 0) = false := by simp; omega
  have h0' : ¬ y = 0 := by omega
  have h1 : decide ((y : Int) ≤ 0) = false := by simp; omega
  obtain ⟨q, hq⟩ : ∃ q, lo / y = q := ⟨_, rfl⟩
  obtain ⟨r, hr⟩ : ∃ r, lo % y = r := ⟨_, rfl⟩
  have hqb : q < 18446744073709551616 := by rw [← hq]; exact Nat.lt_of_le_of_lt (Nat.div_le_self _ _) hlo
  have HQ := Lib.hid hq
  have HR := Lib.hid hr
  have hq' : (lo : Int) / (y : Int) = (q : Int) := by rw [← hq]; rfl
  have hr' : (lo : Int) % (y : Int) = (r : Int) := by rw [← hr]; rfl
  rw [hq, hr]
  clear hq hr
  go_enter Tryz.func196, Tryz.ntmps196
  go_wp2_with fail
  go_region
  all_goals
    go_wp2_with fail
    go_ret2
    exact ⟨by rw [← HR.out]; rfl, 1, rfl⟩
theorem parts32 {Y : Nat} (hY : Y < 18446744073709551616) : (Y : Int) / 4294967296 = ((Y / 4294967296 : Nat) : Int) ∧ bits BinOp.and IntKind.u64 (Y : Int) 4294967295 = ((Y % 4294967296 : Nat) : Int) := by
  refine ⟨by omega, ?_⟩
  have := and_u64 hY (show 4294967295 < 18446744073709551616 by omega)
  rw [show (4294967295 : Int) = ((4294967295 : Nat) : Int) from rfl, this, show 4294967295 = 2 ^ 32 - 1 from rfl, and_mask]
theorem wrap_of {x : Int} {n : Nat} (h : x % 18446744073709551616 = n) : IntKind.u64.wrap x = n := by rw [IntKind.wrap_u64]; exact h
set_option maxHeartbeats 2000000 in
theorem div64_big (w : World) (hi lo y : Nat) (hlo : lo < 18446744073709551616) (hh : 0 < hi) (hy : hi < y) (hy2 : y < 18446744073709551616) :
    Calls Tryz.prog 196 #[.int .u64 hi, .int .u64 lo, .int .u64 y] w fun e w' => e = .returned (.tuple #[.int .u64 (((hi * 18446744073709551616 + lo) / y : Nat) : Int), .int .u64 (((hi * 18446744073709551616 + lo) % y : Nat) : Int)]) ∧ ∃ n, w' = w.drewN n := by
  have h0 : ((y : Int) == 0) = false := by simp; omega
  have h1 : decide (y ≤ hi) = false := by simp; omega
  have h2 : ((hi : Int) == 0) = false := by simp; omega
  obtain ⟨k, hk, hk64, hk1, hk2⟩ := bitLen_spec y (by omega) hy2
  obtain ⟨s, hs⟩ : ∃ s : Nat, s = 63 - k := ⟨_, rfl⟩
  have hsI : (64 - (Lib.bitLen y : Int)) = (s : Int) := by rw [hk]; omega
  have hYb : 9223372036854775808 ≤ y * 2 ^ s ∧ y * 2 ^ s < 18446744073709551616 := by
    have e1 : 2 ^ k * 2 ^ s = 9223372036854775808 := by rw [← Nat.pow_add, show k + s = 63 by omega]
    have e2 : 2 ^ (k + 1) * 2 ^ s = 18446744073709551616 := by rw [← Nat.pow_add, show k + 1 + s = 64 by omega]
    have a1 := Nat.mul_le_mul_right (2 ^ s) hk1
    have a2 := Nat.mul_lt_mul_of_pos_right hk2 (show 0 < 2 ^ s from Nat.pow_pos (by omega))
    omega
  have hs64 : s ≤ 63 := by omega
  obtain ⟨hN, hU, hL, hH⟩ := shift_parts hs64 hlo hy hYb.2
  clear hk hk64 hk1 hk2 hs
  obtain ⟨Y, hY⟩ : ∃ Y, Y = y * 2 ^ s := ⟨_, rfl⟩
  rw [← hY] at hYb hU
  have HSI := Lib.hid hsI
  have y1 : IntKind.u64.wrap ((y : Int) * 2 ^ s) = (Y : Int) := by
    rw [show (y : Int) * 2 ^ s = ((y * 2 ^ s : Nat) : Int) by push_cast; rfl, ← hY]; exact wrap_of (by omega)
  have HY := Lib.hid hY
  clear hsI hY
  have y2 := (parts32 hYb.2).1
  have y3 := (parts32 hYb.2).2
  obtain ⟨a, ha⟩ : ∃ a, Y / 4294967296 = a := ⟨_, rfl⟩
  obtain ⟨b, hb⟩ : ∃ b, Y % 4294967296 = b := ⟨_, rfl⟩
  have hYab : Y = a * 4294967296 + b := by omega
  have ha1 : 2147483648 ≤ a := by omega
  have ha2 : a < 4294967296 := by omega
  have hb2 : b < 4294967296 := by omega
  rw [ha] at y2
  rw [hb] at y3
  clear ha hb
  have y4 : IntKind.u64.wrap ((hi : Int) * 2 ^ s) = ((hi * 2 ^ s : Nat) : Int) := by
    rw [show (hi : Int) * 2 ^ s = ((hi * 2 ^ s : Nat) : Int) by push_cast; rfl]; exact wrap_of (by omega)
  have y5 : (lo : Int) / 2 ^ (64 - s) = ((lo / 2 ^ (64 - s) : Nat) : Int) := by push_cast; rfl
  have hL64 : lo / 2 ^ (64 - s) < 18446744073709551616 := Nat.lt_of_le_of_lt (Nat.div_le_self _ _) hlo
  have y6 := or_u64 hH hL64
  rw [or_apart hL (Nat.mul_mod_left _ _)] at y6
  obtain ⟨U, hUd⟩ : ∃ U, hi * 2 ^ s + lo / 2 ^ (64 - s) = U := ⟨_, rfl⟩
  rw [hUd] at y6 hU hN
  generalize hi * 2 ^ s = H at *
  generalize lo / 2 ^ (64 - s) = L at *
  have y7 : IntKind.u64.wrap ((lo : Int) * 2 ^ s) = ((lo * 2 ^ s % 18446744073709551616 : Nat) : Int) := by
    rw [show (lo : Int) * 2 ^ s = ((lo * 2 ^ s : Nat) : Int) by push_cast; rfl]; exact wrap_u64_nat _
  obtain ⟨T, hT⟩ : ∃ T, lo * 2 ^ s % 18446744073709551616 = T := ⟨_, rfl⟩
  rw [hT] at y7 hN
  have hT64 : T < 18446744073709551616 := by rw [← hT]; exact Nat.mod_lt _ (by omega)
  have y8 := (parts32 hT64).1
  have y9 := (parts32 hT64).2
  clear hT
  have HN := Lib.hid hN
  clear hN hUd
  obtain ⟨u1, hu1⟩ : ∃ u1, T / 4294967296 = u1 := ⟨_, rfl⟩
  obtain ⟨u0, hu0⟩ : ∃ u0, T % 4294967296 = u0 := ⟨_, rfl⟩
  rw [hu1] at y8
  rw [hu0] at y9
  have hu1b : u1 < 4294967296 := by omega
  have hu0b : u0 < 4294967296 := by omega
  have HU1 := Lib.hid hu1
  have HU0 := Lib.hid hu0
  clear hu1 hu0
  have hUab : U < a * 4294967296 + b := by omega
  have hU64 : U < 18446744073709551616 := by omega
  have D1 := DI.start ha1 ha2 hb2 hUab hu1b
  have hr1 := D1.rest rfl ha1
  have hq1b : U / a ≤ 4294967297 := D1.2.2
  have hqa := Nat.div_mul_le_self U a
  have y10 : IntKind.u64.wrap ((U : Int) / (a : Int)) = ((U / a : Nat) : Int) := by rw [show (U : Int) / (a : Int) = ((U / a : Nat) : Int) from rfl, wrap_u64_nat, Nat.mod_eq_of_lt (by omega)]
  obtain ⟨q1, hq1⟩ : ∃ q1, U / a = q1 := ⟨_, rfl⟩
  rw [hq1] at D1 hr1 hq1b hqa y10
  have y11 : IntKind.u64.wrap ((q1 : Int) * (a : Int)) = ((q1 * a : Nat) : Int) := by rw [show (q1 : Int) * (a : Int) = ((q1 * a : Nat) : Int) by push_cast; rfl]; exact wrap_of (by omega)
  obtain ⟨p1, hp1⟩ : ∃ p1, q1 * a = p1 := ⟨_, rfl⟩
  rw [hp1] at y11 hqa D1 hr1
  have y12 : IntKind.u64.wrap ((U : Int) - (p1 : Int)) = ((U - p1 : Nat) : Int) := wrap_of (by omega)
  obtain ⟨r1, hr1e⟩ : ∃ r1, U - p1 = r1 := ⟨_, rfl⟩
  rw [hr1e] at y12 D1 hr1
  have HD1 := Lib.hid D1
  have HYab := Lib.hid hYab
  have hyz : ((a : Int) == 0) = false := by simp; omega
  have hyz' : ¬ a = 0 := by omega
  clear hr1e hp1 hq1 D1 hYab hqa hL64
  go_enter Tryz.func196, Tryz.ntmps196
  go_wp2_with fail
  refine (YtdmglajfmfjmlaaGreat.bits_LeadingZeros64 (y : Int) _ (by omega) (by omega)).mono ?_
  rintro e w' ⟨rfl, rfl⟩
  simp only [Int.toNat_natCast]
  rw [HSI.out]
  go_upto_block 0 with fail
  go_cut [15] (fun v wx => ∃ q : Nat, v = .int .u64 (q : Int) ∧ q = (U * 4294967296 + u1) / (a * 4294967296 + b) ∧ w' = wx)
  case first =>
    go_wp2_with fail
    go_loop [15, 16] (fun v z => ∃ q r : Nat, DI U u1 a b q r ∧ r < 4294967296 ∧ v = .int .u64 (q : Int) ∧ z = .int .u64 (r : Int)) (fun v _ => (intOf v).toNat)
    case atStart => exact ⟨q1, r1, HD1.out, by omega, rfl, rfl⟩
    case round =>
      obtain ⟨q, r, hdi, hr, rfl, rfl⟩ := hrel
      have hq9 : q ≤ 4294967297 := hdi.2.2
      have HDI := Lib.hid hdi
      have hqb : q * b ≤ 4294967297 * 4294967295 := Nat.mul_le_mul hq9 (by omega)
      obtain ⟨m, hm⟩ : ∃ m, q * b = m := ⟨_, rfl⟩
      rw [hm] at hqb
      have m1 : (q : Int) * (b : Int) = (m : Int) := by rw [← hm]; push_cast; rfl
      have m2 : IntKind.u64.wrap (m : Int) = (m : Int) := wrap_of (by omega)
      have HM := Lib.hid hm
      clear hdi hm
      by_cases ht : 4294967296 ≤ q ∨ 4294967296 * r + u1 < m
      · obtain ⟨hq0, hn, hq8⟩ := HDI.out.next ha1 hUab hu1b (by rw [HM.out]; exact ht)
        obtain ⟨p, hp⟩ : ∃ p, q = p + 1 := ⟨q - 1, by omega⟩
        have hp1 : (q : Int) - 1 = (p : Int) := by omega
        rw [show q - 1 = p by omega] at hn hq8
        have HNX := Lib.hid hn
        clear hn
        have hpq : p + 1 ≤ q ∧ q ≤ p + 1 := by omega
        have HP := Lib.hid hp
        clear hp
        by_cases hB : 4294967296 ≤ q
        · have d1 : decide (4294967296 ≤ (q : Int)) = true := by simp only [decide_eq_true_eq]; omega
          clear ht
          by_cases hrB : 4294967296 ≤ r + a
          · have d2 : decide (4294967296 ≤ (r : Int) + (a : Int)) = true := by simp only [decide_eq_true_eq]; omega
            have HS := Lib.hid (HNX.out.stop ha1 hb2 hq8 hrB)
            go_wp2_with fail
            go_meet
            exact ⟨p, rfl, HS.out, rfl⟩
          · have d2 : decide (4294967296 ≤ (r : Int) + (a : Int)) = false := by simp only [decide_eq_false_iff_not]; omega
            go_wp2_with fail
            refine ⟨⟨p, r + a, HNX.out, by omega, rfl, by go_num⟩, by simp [intOf]; omega⟩
        · have d1 : decide (4294967296 ≤ (q : Int)) = false := by simp only [decide_eq_false_iff_not]; omega
          have d3 : decide (4294967296 * (r : Int) + (u1 : Int) < (m : Int)) = true := by simp only [decide_eq_true_eq]; omega
          clear ht
          by_cases hrB : 4294967296 ≤ r + a
          · have d2 : decide (4294967296 ≤ (r : Int) + (a : Int)) = true := by simp only [decide_eq_true_eq]; omega
            have HS := Lib.hid (HNX.out.stop ha1 hb2 hq8 hrB)
            go_wp2_with fail
            go_meet
            exact ⟨p, rfl, HS.out, rfl⟩
          · have d2 : decide (4294967296 ≤ (r : Int) + (a : Int)) = false := by simp only [decide_eq_false_iff_not]; omega
            go_wp2_with fail
            refine ⟨⟨p, r + a, HNX.out, by omega, rfl, by go_num⟩, by simp [intOf]; omega⟩
      · have HE := Lib.hid (HDI.out.right ha1 (by rw [HM.out]; omega))
        have d1 : decide (4294967296 ≤ (q : Int)) = false := by simp only [decide_eq_false_iff_not]; omega
        have d3 : decide (4294967296 * (r : Int) + (u1 : Int) < (m : Int)) = false := by simp only [decide_eq_false_iff_not]; omega
        clear ht
        go_wp2_with fail
        go_meet
        exact ⟨q, rfl, HE.out, rfl⟩
  case rest =>
    obtain ⟨Q1, rfl, Q1e, rfl⟩ := hcut
    have hQ1d := Q1e
    have hQ1b : Q1 < 4294967296 := by rw [Q1e]; exact dg_lt ha1 hUab hu1b
    have hVm := Nat.div_add_mod (U * 4294967296 + u1) (a * 4294967296 + b)
    have hVab := Nat.mod_lt (U * 4294967296 + u1) (show 0 < a * 4294967296 + b by omega)
    obtain ⟨V, hV⟩ : ∃ z_, (U * 4294967296 + u1) % (a * 4294967296 + b) = z_ := ⟨_, rfl⟩
    rw [← Q1e, hV] at hVm
    rw [hV] at hVab
    have VY : (a * 4294967296 + b) * Q1 = Q1 * Y := by rw [HYab.out, Nat.mul_comm]
    rw [VY] at hVm
    obtain ⟨PQ1, hPQ1⟩ : ∃ P, Q1 * Y = P := ⟨_, rfl⟩
    rw [hPQ1] at hVm
    have ta1 : IntKind.u64.wrap ((U : Int) * 4294967296) = ((U * 4294967296 % 18446744073709551616 : Nat) : Int) := wrap_of (by omega)
    obtain ⟨taa, taae⟩ : ∃ x, U * 4294967296 % 18446744073709551616 = x := ⟨_, rfl⟩
    rw [taae] at ta1
    have ta2 : IntKind.u64.wrap ((taa : Int) + (u1 : Int)) = (((taa + u1) % 18446744073709551616 : Nat) : Int) := wrap_of (by omega)
    obtain ⟨tab, tabe⟩ : ∃ x, (taa + u1) % 18446744073709551616 = x := ⟨_, rfl⟩
    rw [tabe] at ta2
    have ta3 : IntKind.u64.wrap ((Q1 : Int) * (Y : Int)) = ((PQ1 % 18446744073709551616 : Nat) : Int) := by
      rw [show (Q1 : Int) * (Y : Int) = ((Q1 * Y : Nat) : Int) by push_cast; rfl, hPQ1]; exact wrap_u64_nat _
    obtain ⟨tac, tace⟩ : ∃ x, PQ1 % 18446744073709551616 = x := ⟨_, rfl⟩
    rw [tace] at ta3
    have ta4 : IntKind.u64.wrap ((tab : Int) - (tac : Int)) = (V : Int) := wrap_of (by omega)
    have HmV := Lib.hid hVm
    have HPQ1 := Lib.hid hPQ1
    have HdQ1 := Lib.hid hQ1d
    clear hVm hPQ1 hQ1d hV VY taae tabe tace Q1e
    have hV64 : V < 18446744073709551616 := by omega
    have D2 := DI.start ha1 ha2 hb2 hVab hu0b
    have hr2 := D2.rest rfl ha1
    have hq2b : V / a ≤ 4294967297 := D2.2.2
    have hva := Nat.div_mul_le_self V a
    have x10 : IntKind.u64.wrap ((V : Int) / (a : Int)) = ((V / a : Nat) : Int) := by rw [show (V : Int) / (a : Int) = ((V / a : Nat) : Int) from rfl, wrap_u64_nat, Nat.mod_eq_of_lt (by omega)]
    obtain ⟨q2, hq2⟩ : ∃ q2, V / a = q2 := ⟨_, rfl⟩
    rw [hq2] at D2 hr2 hq2b hva x10
    have x11 : IntKind.u64.wrap ((q2 : Int) * (a : Int)) = ((q2 * a : Nat) : Int) := by rw [show (q2 : Int) * (a : Int) = ((q2 * a : Nat) : Int) by push_cast; rfl]; exact wrap_of (by omega)
    obtain ⟨p2, hp2⟩ : ∃ p2, q2 * a = p2 := ⟨_, rfl⟩
    rw [hp2] at x11 hva D2 hr2
    have x12 : IntKind.u64.wrap ((V : Int) - (p2 : Int)) = ((V - p2 : Nat) : Int) := wrap_of (by omega)
    obtain ⟨r2, hr2e⟩ : ∃ r2, V - p2 = r2 := ⟨_, rfl⟩
    rw [hr2e] at x12 D2 hr2
    have HD2 := Lib.hid D2
    clear hr2e hp2 hq2 D2 hva

    go_upto_block 2 with fail
    go_cut [18] (fun v wx => ∃ q : Nat, v = .int .u64 (q : Int) ∧ q = (V * 4294967296 + u0) / (a * 4294967296 + b) ∧ w' = wx)
    case first =>
      go_wp2_with fail
      go_loop [18, 16] (fun v z => ∃ q r : Nat, DI V u0 a b q r ∧ r < 4294967296 ∧ v = .int .u64 (q : Int) ∧ z = .int .u64 (r : Int)) (fun v _ => (intOf v).toNat)
      case atStart => exact ⟨q2, r2, HD2.out, by omega, rfl, rfl⟩
      case round =>
        obtain ⟨q, r, hdi, hr, rfl, rfl⟩ := hrel
        have hq9 : q ≤ 4294967297 := hdi.2.2
        have HDI := Lib.hid hdi
        have hqb : q * b ≤ 4294967297 * 4294967295 := Nat.mul_le_mul hq9 (by omega)
        obtain ⟨m, hm⟩ : ∃ m, q * b = m := ⟨_, rfl⟩
        rw [hm] at hqb
        have m1 : (q : Int) * (b : Int) = (m : Int) := by rw [← hm]; push_cast; rfl
        have m2 : IntKind.u64.wrap (m : Int) = (m : Int) := wrap_of (by omega)
        have HM := Lib.hid hm
        clear hdi hm
        by_cases ht : 4294967296 ≤ q ∨ 4294967296 * r + u0 < m
        · obtain ⟨hq0, hn, hq8⟩ := HDI.out.next ha1 hVab hu0b (by rw [HM.out]; exact ht)
          obtain ⟨p, hp⟩ : ∃ p, q = p + 1 := ⟨q - 1, by omega⟩
          have hp1 : (q : Int) - 1 = (p : Int) := by omega
          rw [show q - 1 = p by omega] at hn hq8
          have HNX := Lib.hid hn
          clear hn
          have hpq : p + 1 ≤ q ∧ q ≤ p + 1 := by omega
          have HP := Lib.hid hp
          clear hp
          by_cases hB : 4294967296 ≤ q
          · have d1 : decide (4294967296 ≤ (q : Int)) = true := by simp only [decide_eq_true_eq]; omega
            clear ht
            by_cases hrB : 4294967296 ≤ r + a
            · have d2 : decide (4294967296 ≤ (r : Int) + (a : Int)) = true := by simp only [decide_eq_true_eq]; omega
              have HS := Lib.hid (HNX.out.stop ha1 hb2 hq8 hrB)
              go_wp2_with fail
              go_meet
              exact ⟨p, rfl, HS.out, rfl⟩
            · have d2 : decide (4294967296 ≤ (r : Int) + (a : Int)) = false := by simp only [decide_eq_false_iff_not]; omega
              go_wp2_with fail
              refine ⟨⟨p, r + a, HNX.out, by omega, rfl, by go_num⟩, by simp [intOf]; omega⟩
          · have d1 : decide (4294967296 ≤ (q : Int)) = false := by simp only [decide_eq_false_iff_not]; omega
            have d3 : decide (4294967296 * (r : Int) + (u0 : Int) < (m : Int)) = true := by simp only [decide_eq_true_eq]; omega
            clear ht
            by_cases hrB : 4294967296 ≤ r + a
            · have d2 : decide (4294967296 ≤ (r : Int) + (a : Int)) = true := by simp only [decide_eq_true_eq]; omega
              have HS := Lib.hid (HNX.out.stop ha1 hb2 hq8 hrB)
              go_wp2_with fail
              go_meet
              exact ⟨p, rfl, HS.out, rfl⟩
            · have d2 : decide (4294967296 ≤ (r : Int) + (a : Int)) = false := by simp only [decide_eq_false_iff_not]; omega
              go_wp2_with fail
              refine ⟨⟨p, r + a, HNX.out, by omega, rfl, by go_num⟩, by simp [intOf]; omega⟩
        · have HE := Lib.hid (HDI.out.right ha1 (by rw [HM.out]; omega))
          have d1 : decide (4294967296 ≤ (q : Int)) = false := by simp only [decide_eq_false_iff_not]; omega
          have d3 : decide (4294967296 * (r : Int) + (u0 : Int) < (m : Int)) = false := by simp only [decide_eq_false_iff_not]; omega
          clear ht
          go_wp2_with fail
          go_meet
          exact ⟨q, rfl, HE.out, rfl⟩
    case rest =>
      obtain ⟨Q0, rfl, Q0e, rfl⟩ := hcut
      have hQ0d := Q0e
      have hQ0b : Q0 < 4294967296 := by rw [Q0e]; exact dg_lt ha1 hVab hu0b
      have hRm := Nat.div_add_mod (V * 4294967296 + u0) (a * 4294967296 + b)
      have hRab := Nat.mod_lt (V * 4294967296 + u0) (show 0 < a * 4294967296 + b by omega)
      obtain ⟨R, hR⟩ : ∃ z_, (V * 4294967296 + u0) % (a * 4294967296 + b) = z_ := ⟨_, rfl⟩
      rw [← Q0e, hR] at hRm
      rw [hR] at hRab
      have RY : (a * 4294967296 + b) * Q0 = Q0 * Y := by rw [HYab.out, Nat.mul_comm]
      rw [RY] at hRm
      obtain ⟨PQ0, hPQ0⟩ : ∃ P, Q0 * Y = P := ⟨_, rfl⟩
      rw [hPQ0] at hRm
      have tb1 : IntKind.u64.wrap ((V : Int) * 4294967296) = ((V * 4294967296 % 18446744073709551616 : Nat) : Int) := wrap_of (by omega)
      obtain ⟨tba, tbae⟩ : ∃ x, V * 4294967296 % 18446744073709551616 = x := ⟨_, rfl⟩
      rw [tbae] at tb1
      have tb2 : IntKind.u64.wrap ((tba : Int) + (u0 : Int)) = (((tba + u0) % 18446744073709551616 : Nat) : Int) := wrap_of (by omega)
      obtain ⟨tbb, tbbe⟩ : ∃ x, (tba + u0) % 18446744073709551616 = x := ⟨_, rfl⟩
      rw [tbbe] at tb2
      have tb3 : IntKind.u64.wrap ((Q0 : Int) * (Y : Int)) = ((PQ0 % 18446744073709551616 : Nat) : Int) := by
        rw [show (Q0 : Int) * (Y : Int) = ((Q0 * Y : Nat) : Int) by push_cast; rfl, hPQ0]; exact wrap_u64_nat _
      obtain ⟨tbc, tbce⟩ : ∃ x, PQ0 % 18446744073709551616 = x := ⟨_, rfl⟩
      rw [tbce] at tb3
      have tb4 : IntKind.u64.wrap ((tbb : Int) - (tbc : Int)) = (R : Int) := wrap_of (by omega)
      have HmR := Lib.hid hRm
      have HPQ0 := Lib.hid hPQ0
      have HdQ0 := Lib.hid hQ0d
      clear hRm hPQ0 hQ0d hR RY tbae tbbe tbce Q0e
      have x20 : (R : Int) / 2 ^ s = ((R / 2 ^ s : Nat) : Int) := by push_cast; rfl
      obtain ⟨R2, hR2⟩ : ∃ R2, R / 2 ^ s = R2 := ⟨_, rfl⟩
      rw [hR2] at x20
      have fin := div_final (hi := hi) (lo := lo) (y := y) (s := s) (Y := Y) (un32 := U) (un10 := T) (Q1 := Q1) (u21 := V) (Q0 := Q0) (R := R) (by omega) HY.out HN.out (by rw [HU1.out, HPQ1.out]; exact HmV.out.symm) (by rw [HU0.out, HPQ0.out]; exact HmR.out.symm) (by rw [HYab.out]; exact hRab)
      rw [hR2] at fin
      have HFIN := Lib.hid fin
      clear fin hR2
      go_wp2_with fail
      go_ret2
      exact ⟨by rw [HFIN.out.1, HFIN.out.2]; first | rfl | (push_cast; rfl), 0, rfl⟩
end Go.Proofs.YtdmglajfmfjmlaaGreat
namespace Go.Proofs.YtdmglajfmfjmlaaGreat
set_option linter.unusedSimpArgs false
set_option linter.unusedVariables false
set_option maxRecDepth 100000
open Go.RowKit
theorem div64_any (w : World) (hi lo y : Nat) (hlo : lo < 18446744073709551616) (hy : hi < y) (hy2 : y < 18446744073709551616) :
    Calls Tryz.prog 196 #[.int .u64 hi, .int .u64 lo, .int .u64 y] w fun e w' => e = .returned (.tuple #[.int .u64 (((hi * 18446744073709551616 + lo) / y : Nat) : Int), .int .u64 (((hi * 18446744073709551616 + lo) % y : Nat) : Int)]) ∧ ∃ n, w' = w.drewN n := by
  rcases Nat.eq_zero_or_pos hi with h | h
  · subst h
    rw [Nat.zero_mul, Nat.zero_add]
    exact div64_small w lo y hlo hy hy2
  · exact div64_big w hi lo y hlo h hy hy2
theorem nv_drop {xs : List Nat} {j : Nat} (h : j < xs.length) : nv (xs.drop j) = gd xs j + 18446744073709551616 * nv (xs.drop (j + 1)) := by
  rw [List.drop_eq_getElem_cons h, nv, gd_lt h]
theorem drop_set_lt {xs : List Nat} {j k y : Nat} (h : j < k) : (xs.set j y).drop k = xs.drop k := by
  rw [List.drop_set, if_pos h]
theorem small_step {X Z d r x q r' B : Nat} (h : X = Z * d + r) (hq : r * B + x = q * d + r') : x + B * X = (q + B * Z) * d + r' := by
  subst h
  rw [Nat.mul_add, Nat.add_mul, Nat.mul_assoc, Nat.mul_comm B r]; omega
def Apart (A A' : Option Addr) : Prop := ∀ g, A = some ⟨g, 0, none⟩ → A' ≠ some ⟨g, 0, none⟩
theorem Apart.of {k k' : IntKind} {e e' : TypeId} {w w' : World} {base n c n' c' : Nat} {A A' : Option Addr} {xs xs' : List Nat} (h : Own k e w base A n c xs) (h' : Own k' e' w' w.heap.size A' n' c' xs') : Apart A A' := by
  rintro g rfl e
  rcases h.ways with ⟨h1, _⟩ | ⟨g1, h1, _, h2, _⟩
  · cases h1
  · rcases h'.ways with ⟨h3, _⟩ | ⟨g2, h3, h4, _⟩
    · rw [e] at h3; cases h3
    · rw [e] at h3
      simp only [Option.some.injEq, Addr.mk.injEq, and_true] at h1 h3
      omega
theorem Apart.none (A : Option Addr) : Apart Option.none A := fun _ h => by cases h
def RetNN (m m' : Nat) (w : World) (e : Ending) (w' : World) : Prop := ∃ A c A' c', e = .returned (.tuple #[.slice A (ln m) c, .slice A' (ln m') c']) ∧ Own .u64 23 w' w.heap.size A (ln m) c (limbs m) ∧ Own .u64 23 w' w.heap.size A' (ln m') c' (limbs m') ∧ Below w.heap.size w w' ∧ Apart A A'
set_option maxHeartbeats 1000000 in
theorem small_any (w : World) {A : Option Addr} {n c x : Nat} (d : Nat) (hx : NA w A n c x) (hn : n ≤ 1048576) (hd : 0 < d) (hd2 : d < 18446744073709551616) :
    Calls Tryz.prog 163 #[.slice A n c, .int .u64 d] w (RetNN (x / d) (x % d) w) := by
  obtain ⟨xs, hx, bx, rfl⟩ := hx
  have HX := Lib.hid hx
  have BX := Lib.hid bx
  have hmk := fun w => run_mk n (by omega) w
  clear hx bx
  go_enter Tryz.func163, Tryz.ntmps163
  go_wp2_with fail
  go_loopw [7, 8] (fun rv i wr => ∃ (k r : Nat) (zs : List Nat), k ≤ n ∧ r < d ∧ i = .int .i64 ((k : Int) - 1) ∧ rv = .int .u64 (r : Int) ∧ zs.length = n ∧ B64 zs ∧ Bk wr w.heap.size 23 (va .u64 zs) ∧ Below w.heap.size w wr ∧ nv (xs.drop k) = nv (zs.drop k) * d + r) (fun _ i _ => (intOf i + 1).toNat)
  case atStart => exact ⟨n, 0, List.replicate n 0, by omega, hd, rfl, rfl, by simp, B64.replicate _, Bk.new _ _ _, (Below.refl _ _).alloc (Nat.le_refl _) _, by rw [List.drop_eq_nil_of_le (by rw [HX.out.len]; omega), List.drop_eq_nil_of_le (by simp)]; simp [nv]⟩
  case round =>
    obtain ⟨k, r, zs, hk, hr, rfl, rfl, hzl, bz, bk, hbl, hinv⟩ := hrel
    have HI := Lib.hid hinv
    clear hinv
    by_cases hk0 : k = 0
    · subst hk0
      have hfin : nv xs / d = nv zs ∧ nv xs % d = r := by
        have e := HI.out
        simp only [List.drop_zero] at e
        rw [e]
        refine ⟨?_, ?_⟩
        · rw [Nat.add_comm, Nat.add_mul_div_right _ _ hd, Nat.div_eq_of_lt hr, Nat.zero_add]
        · rw [Nat.add_comm, Nat.add_mul_mod_self_right, Nat.mod_eq_of_lt hr]
      have HF := Lib.hid hfin
      clear hfin
      have hna : NA wr (some ⟨w.heap.size, 0, none⟩) n n (nv zs) := ⟨zs, (Own.of_bk (base := 0) bk (by omega) hzl (by omega)).rd, bz, rfl⟩
      have HNA := Lib.hid hna
      clear hna bk
      go_wp2_with fail
      refine (trim_any _ HNA.out hn).mono ?_
      rintro e w1 h
      have h := h.lift hbl
      obtain ⟨A1, c1, rfl, ho, hb⟩ := h
      go_wp2_with fail
      refine (of_any _ r (by omega)).mono ?_
      rintro e w2 h
      have hb2 := h.lift hb
      obtain ⟨A3, c3, _, _, hb3⟩ := hb2
      obtain ⟨A2, c2, rfl, ho2, hb2⟩ := h
      go_wp2_with fail
      go_ret2
      refine ⟨A1, c1, A2, c2, ?_, ?_, ?_, hb3, Apart.of ho ho2⟩
      · rw [HF.out.1, HF.out.2]; rfl
      · rw [HF.out.1]; exact ho.below hb2
      · rw [HF.out.2]; exact ho2.lower hb.size
    · obtain ⟨k, rfl⟩ : ∃ j, k = j + 1 := ⟨k - 1, by omega⟩
      obtain ⟨ad, rfl, hb, hc⟩ := HX.out.form (by omega)
      have ek : ((k + 1 : Nat) : Int) - 1 = (k : Int) := by omega
      have hxc := (hbl.cell (p := ad.add k) (adlt hb k)).trans (hc k (by omega))
      have hcell := (bk.cell k).trans (va_at .u64 (by omega))
      have hfr := bk.frozen k
      have hgx := BX.out.gd k
      have hdv := fun w => div64_any w r (gd xs k) d hgx hr hd2
      have hdm := Nat.div_add_mod (r * 18446744073709551616 + gd xs k) d
      have hml := Nat.mod_lt (r * 18446744073709551616 + gd xs k) hd
      have hql : (r * 18446744073709551616 + gd xs k) / d < 18446744073709551616 := by
        rw [Nat.div_lt_iff_lt_mul hd]
        have := Nat.mul_le_mul_left 18446744073709551616 (show r + 1 ≤ d from hr)
        omega
      obtain ⟨q, hq⟩ : ∃ q, (r * 18446744073709551616 + gd xs k) / d = q := ⟨_, rfl⟩
      obtain ⟨r', hr'⟩ : ∃ r', (r * 18446744073709551616 + gd xs k) % d = r' := ⟨_, rfl⟩
      rw [hq, hr'] at hdv hdm
      rw [hr'] at hml
      rw [hq] at hql
      have HDV := Lib.hid hdv
      have HDM := Lib.hid hdm
      have BK := Lib.hid bk
      clear hc hdv hdm hq hr' bk hk0
      go_wp2_with fail
      refine (HDV.out _).mono ?_
      rintro e w' ⟨rfl, nd, rfl⟩
      go_wp2_with fail
      refine ⟨⟨k, r', zs.set k q, by omega, hml, rfl, rfl, by simpa using hzl, bz.set hql, ?_, ?_, ?_⟩, by simp [intOf]⟩
      · rw [← va_set]; exact Bk.set (w := wr.drewN nd) BK.out k _
      · (repeat (first | (with_reducible exact Below.refl _ _) | (with_reducible assumption) | (with_reducible refine Below.drew ?_) | (with_reducible refine below_drewN ?_ _) | ((with_reducible refine Below.setCell ?_ (p := ⟨_, _, _⟩) ?_ _); rotate_left; (simp <;> omega)) | ((with_reducible refine Below.alloc ?_ ?_ _); rotate_left; (simp <;> omega)) | ((with_reducible refine Below.trans ?_ (Below.mono (by with_reducible assumption) ?_)); rotate_left; (simp <;> omega))))
      · rw [nv_drop (xs := xs) (by rw [HX.out.len]; omega), nv_drop (xs := zs.set k q) (by rw [List.length_set]; omega), gd_set_self (by omega), drop_set_lt (by omega)]
        exact small_step HI.out (by rw [Nat.mul_comm q d]; exact HDM.out.symm)
end Go.Proofs.YtdmglajfmfjmlaaGreat
namespace Go.Proofs.YtdmglajfmfjmlaaGreat
set_option linter.unusedSimpArgs false
set_option linter.unusedVariables false
set_option maxRecDepth 100000
open Go.RowKit
theorem nv_set {zs : List Nat} {j : Nat} (y : Nat) (h : j < zs.length) : nv (zs.set j y) + 18446744073709551616 ^ j * gd zs j = nv zs + 18446744073709551616 ^ j * y := by
  induction zs generalizing j with
  | nil => simp at h
  | cons z zs ih =>
    cases j with
    | zero => simp [nv, gd]; omega
    | succ j =>
      have := ih (j := j) (by simpa using h)
      have e : gd (z :: zs) (j + 1) = gd zs j := by simp [gd]
      simp only [List.set_cons_succ, nv, e, Nat.pow_succ]
      have e1 : 18446744073709551616 ^ j * 18446744073709551616 * gd zs j = 18446744073709551616 * (18446744073709551616 ^ j * gd zs j) := by rw [Nat.mul_comm (18446744073709551616 ^ j) 18446744073709551616, Nat.mul_assoc]
      have e2 : 18446744073709551616 ^ j * 18446744073709551616 * y = 18446744073709551616 * (18446744073709551616 ^ j * y) := by rw [Nat.mul_comm (18446744073709551616 ^ j) 18446744073709551616, Nat.mul_assoc]
      rw [e1, e2]; omega
theorem gd_le (zs : List Nat) (j : Nat) : 18446744073709551616 ^ j * gd zs j ≤ nv zs := by
  induction zs generalizing j with
  | nil => simp [gd]
  | cons z zs ih =>
    cases j with
    | zero => simp [nv, gd]
    | succ j =>
      have e : gd (z :: zs) (j + 1) = gd zs j := by simp [gd]
      have := ih j
      rw [e, Nat.pow_succ, Nat.mul_comm (18446744073709551616 ^ j) 18446744073709551616, Nat.mul_assoc]
      simp only [nv]; omega
theorem gd_small {zs : List Nat} {j c : Nat} (h : nv zs < 18446744073709551616 ^ j * c) : gd zs j < c := by
  have := gd_le zs j
  exact Nat.lt_of_mul_lt_mul_left (Nat.lt_of_le_of_lt this h)
theorem wpow (q : Nat) : 18446744073709551616 ^ q = 2 ^ (64 * q) := by rw [Nat.pow_mul]
theorem limb_up {x r : Nat} (hr : r ≤ 63) (hx : x < 18446744073709551616) : x * 2 ^ r % 18446744073709551616 + 18446744073709551616 * (x / 2 ^ (63 - r) / 2) = x * 2 ^ r ∧ x * 2 ^ r % 18446744073709551616 % 2 ^ r = 0 ∧ x / 2 ^ (63 - r) / 2 < 18446744073709551616 ∧ x / 2 ^ (63 - r) / 2 < 2 ^ r := by
  have hp : 0 < 2 ^ r := Nat.pow_pos (by omega)
  have e64 : 2 ^ (64 - r) * 2 ^ r = 18446744073709551616 := by rw [← Nat.pow_add, Nat.sub_add_cancel (by omega)]
  have e1 : x / 2 ^ (63 - r) / 2 = x / 2 ^ (64 - r) := by rw [Nat.div_div_eq_div_mul, ← Nat.pow_succ, show (63 - r).succ = 64 - r by omega]
  have e2 : x / 2 ^ (64 - r) = x * 2 ^ r / 18446744073709551616 := by rw [← e64, Nat.mul_div_mul_right _ _ hp]
  have e3 : 18446744073709551616 % 2 ^ r = 0 := by rw [← e64]; exact Nat.mul_mod_left _ _
  rw [e1]
  refine ⟨?_, ?_, ?_, ?_⟩
  · rw [e2]; exact Nat.mod_add_div _ _
  · rw [Nat.mod_mod_of_dvd _ (Nat.dvd_of_mod_eq_zero e3)]; exact Nat.mul_mod_left _ _
  · exact Nat.lt_of_le_of_lt (Nat.div_le_self _ _) hx
  · rw [Nat.div_lt_iff_lt_mul (Nat.pow_pos (by omega)), Nat.mul_comm, e64]; exact hx
theorem or_apart' {a b i : Nat} (ha : a < 2 ^ i) (hb : b % 2 ^ i = 0) : a ||| b = a + b := by rw [Nat.or_comm, or_apart ha hb, Nat.add_comm]
theorem up_step {S X P q r k x o lo hi S1 S2 : Nat} (hP : P = 18446744073709551616 ^ k) (hlh : lo + 18446744073709551616 * hi = x * 2 ^ r) (h : S = X * 2 ^ (64 * q + r))
    (h1 : S1 + 18446744073709551616 ^ (k + q) * o = S + 18446744073709551616 ^ (k + q) * (o + lo)) (h2 : S2 + 18446744073709551616 ^ (k + q + 1) * 0 = S1 + 18446744073709551616 ^ (k + q + 1) * hi) : S2 = (X + P * x) * 2 ^ (64 * q + r) := by
  have e : 18446744073709551616 ^ (k + q) * (x * 2 ^ r) = P * x * 2 ^ (64 * q + r) := by
    rw [hP, Nat.pow_add, wpow q, Nat.pow_add]
    ac_rfl
  rw [Nat.mul_add] at h1
  rw [Nat.add_mul, ← h, ← e, ← hlh, Nat.mul_add]
  have e3 : 18446744073709551616 ^ (k + q + 1) * hi = 18446744073709551616 ^ (k + q) * (18446744073709551616 * hi) := by rw [Nat.pow_succ, Nat.mul_assoc]
  rw [e3] at h2
  omega
set_option maxHeartbeats 1000000 in
theorem up_gen (w : World) {A : Option Addr} {n c x : Nat} (s : Nat) (t0 : Int) (hx : NA w A n c x) (hn : n ≤ 524288) (hs : s ≤ 65536) (m1 : min t0 65536 = (s : Int)) :
    Calls Tryz.prog 164 #[.slice A n c, .int .i64 t0] w (RetN (x * 2 ^ s) w) := by
  obtain ⟨xs, hx, bx, rfl⟩ := hx
  have HX := Lib.hid hx
  have BX := Lib.hid bx
  obtain ⟨q, hq⟩ : ∃ q, s / 64 = q := ⟨_, rfl⟩
  obtain ⟨r, hr⟩ : ∃ r, s % 64 = r := ⟨_, rfl⟩
  have hsqr : s = 64 * q + r := by omega
  have hr63 : r ≤ 63 := by omega
  have hmk := fun w => run_mk (n + q + 1) (by omega) w
  rw [show ((n + q + 1 : Nat) : Int) = (n : Int) + (q : Int) + 1 from rfl] at hmk
  have d1 : (s : Int) / 64 = (q : Int) := by omega
  have d2 : (s : Int).tdiv 64 = (q : Int) := by rw [Int.tdiv_eq_ediv_of_nonneg (by omega)]; omega
  have d3 : (s : Int) % 64 = (r : Int) := by omega
  have d4 : (s : Int).tmod 64 = (r : Int) := by rw [Int.tmod_eq_emod_of_nonneg (by omega)]; omega
  have d5 : IntKind.i64.wrap (q : Int) = (q : Int) := IntWalk.i64_in _ (by omega)
  have m2 : max (s : Int) (-65536) = (s : Int) := by omega
  have hd : decide ((s : Int) < 0) = false := by simp
  have HSQ := Lib.hid hsqr
  clear hx bx hsqr hq hr
  go_enter Tryz.func164, Tryz.ntmps164
  go_wp2_with fail
  go_loopw [26] (fun i wr => ∃ (k : Nat) (zs : List Nat), k ≤ n ∧ i = .int .i64 (k : Int) ∧ zs.length = n + q + 1 ∧ B64 zs ∧ Bk wr w.heap.size 23 (va .u64 zs) ∧ Below w.heap.size w wr ∧ nv zs = nv (xs.take k) * 2 ^ (64 * q + r)) (fun i _ => n - (intOf i).toNat)
  case atStart => exact ⟨0, List.replicate (n + q + 1) 0, by omega, rfl, by simp, B64.replicate _, Bk.new _ _ _, (Below.refl _ _).alloc (Nat.le_refl _) _, by rw [nv_replicate]; simp [nv]⟩
  case round =>
    obtain ⟨k, zs, hk, rfl, hzl, bz, bk, hbl, hinv⟩ := hrel
    have HI := Lib.hid hinv
    clear hinv
    by_cases hlt : k < n
    · obtain ⟨ad, rfl, hb, hc⟩ := HX.out.form (by omega)
      have hxc := (hbl.cell (p := ad.add k) (adlt hb k)).trans (hc k hlt)
      have hcell := (bk.cell (k + q)).trans (va_at .u64 (by omega))
      have hfr := bk.frozen (k + q)
      have hgx := BX.out.gd k
      obtain ⟨u1, u2, u3, u4⟩ := limb_up hr63 hgx
      have hbnd : nv zs < 18446744073709551616 ^ (k + q) * 2 ^ r := by
        have := nv_take_lt BX.out k
        rw [HI.out, Nat.pow_add 2, ← wpow, Nat.pow_add, ← Nat.mul_assoc]
        exact Nat.mul_lt_mul_of_pos_right (Nat.mul_lt_mul_of_pos_right this (Nat.pow_pos (by omega))) (Nat.pow_pos (by omega))
      have ho : gd zs (k + q) < 2 ^ r := gd_small hbnd
      have ho2 : gd zs (k + q + 1) = 0 := by
        have : gd zs (k + q + 1) < 1 := gd_small (by rw [Nat.pow_succ, Nat.mul_one]; exact Nat.lt_of_lt_of_le hbnd (Nat.mul_le_mul_left _ (by rw [show 18446744073709551616 = 2 ^ 64 from rfl]; exact Nat.pow_le_pow_right (by omega) (by omega))))
        omega
      obtain ⟨lo, hlo⟩ : ∃ lo, gd xs k * 2 ^ r % 18446744073709551616 = lo := ⟨_, rfl⟩
      obtain ⟨hi, hhi⟩ : ∃ hi, gd xs k / 2 ^ (63 - r) / 2 = hi := ⟨_, rfl⟩
      rw [hlo, hhi] at u1
      rw [hlo] at u2
      rw [hhi] at u3 u4
      have hlo64 : lo < 18446744073709551616 := by rw [← hlo]; exact Nat.mod_lt _ (by omega)
      have e1 : IntKind.u64.wrap ((gd xs k : Int) * 2 ^ r) = (lo : Int) := by
        rw [show (gd xs k : Int) * 2 ^ r = ((gd xs k * 2 ^ r : Nat) : Int) by push_cast; rfl, wrap_u64_nat, hlo]
      have hog := bz.gd (k + q)
      have e2 := or_u64 hog hlo64
      rw [or_apart' ho u2] at e2
      obtain ⟨v, hv⟩ : ∃ v, gd zs (k + q) + lo = v := ⟨_, rfl⟩
      rw [hv] at e2
      have hv64 : v < 18446744073709551616 := by
        rw [← hv, ← or_apart' ho u2]; exact Nat.or_lt_two_pow (n := 64) hog hlo64
      have e0 : IntKind.i64.wrap ((k : Int) + (q : Int)) = (k : Int) + (q : Int) := IntWalk.i64_in _ (by omega)
      have e00 : ((k : Int) + (q : Int)).toNat = k + q := by omega
      have b1 : (0 : Int) ≤ (k : Int) + (q : Int) := by omega
      have b2 : (k : Int) + (q : Int) < (n : Int) + (q : Int) + 1 := by omega
      have hbk := bk.set (k + q) (.int .u64 (v : Int))
      rw [va_set] at hbk
      have HBK := Lib.hid hbk
      have N1 := Lib.hid (nv_set v (show k + q < zs.length by omega))
      have HV := Lib.hid hv
      have U1 := Lib.hid u1
      have HO2 := Lib.hid ho2
      have Hhi := Lib.hid hhi
      clear hc bk u1 u2 u4 ho hbnd hlo hhi ho2 hbk hv
      go_wp2_with fail
      refine wp_region_still_tail 13 (by kernel_rfl) (by kernel_rfl) ?_
      simp only [List.take_succ_cons, List.take_zero, List.drop_succ_cons, List.drop_zero, World.drew_eq]
      repeat still_step
      refine wpStill_nil ?_
      have e3 : IntKind.i64.wrap ((k : Int) + (q : Int) + 1) = (k : Int) + (q : Int) + 1 := IntWalk.i64_in _ (by omega)
      have e33 : ((k : Int) + (q : Int) + 1).toNat = k + q + 1 := by omega
      have b3 : (0 : Int) ≤ (k : Int) + (q : Int) + 1 := by omega
      have b4 : (k : Int) + (q : Int) + 1 < (n : Int) + (q : Int) + 1 := by omega
      have e4 : IntKind.i64.wrap (63 - (r : Int)) = ((63 - r : Nat) : Int) := by rw [IntWalk.i64_in _ (by omega)]; omega
      have e5 : (gd xs k : Int) / 2 ^ (63 - r) / 2 = (hi : Int) := by rw [← Hhi.out]; push_cast; rfl
      have hcell2 := (HBK.out.cell (k + q + 1)).trans (va_at .u64 (by rw [List.length_set]; omega))
      rw [gd_set (by omega), HO2.out] at hcell2
      have hbk2 := HBK.out.set (k + q + 1) (.int .u64 (hi : Int))
      rw [va_set] at hbk2
      have HBK2 := Lib.hid hbk2
      have e6 : bits BinOp.or IntKind.u64 0 (hi : Int) = (hi : Int) := by have h := or_u64 (a := 0) (b := hi) (by omega) u3; rw [Nat.zero_or] at h; exact h
      have hfr2 : ∀ o, (wr.setCell ⟨w.heap.size, k + q, none⟩ (.int .u64 (v : Int))).frozen? ⟨w.heap.size, o, none⟩ = false := fun o => HBK.out.frozen o
      clear hbk2
      go_wp2_with fail
      refine wp_region_still_tail 16 (by kernel_rfl) (by kernel_rfl) ?_
      simp only [List.take_succ_cons, List.take_zero, List.drop_succ_cons, List.drop_zero, World.drew_eq]
      repeat still_step
      refine wpStill_nil ?_
      go_wp2_with fail
      refine ⟨⟨k + 1, (zs.set (k + q) v).set (k + q + 1) hi, by omega, by go_num, by simpa using hzl, (bz.set hv64).set u3, HBK2.out, ?_, ?_⟩, by simp [intOf]; omega⟩
      · (repeat (first | (with_reducible exact Below.refl _ _) | (with_reducible assumption) | (with_reducible refine Below.drew ?_) | (with_reducible refine below_drewN ?_ _) | ((with_reducible refine Below.setCell ?_ (p := ⟨_, _, _⟩) ?_ _); rotate_left; (simp <;> omega)) | ((with_reducible refine Below.alloc ?_ ?_ _); rotate_left; (simp <;> omega)) | ((with_reducible refine Below.trans ?_ (Below.mono (by with_reducible assumption) ?_)); rotate_left; (simp <;> omega))))
      · have N2 := nv_set (zs := zs.set (k + q) v) (j := k + q + 1) hi (by rw [List.length_set]; omega)
        rw [gd_set (by omega), HO2.out] at N2
        rw [nv_take]
        exact up_step rfl U1.out HI.out (by rw [HV.out]; exact N1.out) N2
    · obtain rfl : n = k := by omega
      have hna : NA wr (some ⟨w.heap.size, 0, none⟩) (n + q + 1) (n + q + 1) (nv xs * 2 ^ s) := by
        refine ⟨zs, (Own.of_bk (base := 0) bk (by omega) hzl (by omega)).rd, bz, ?_⟩
        have e := HI.out
        rw [List.take_of_length_le (by rw [HX.out.len]; omega)] at e
        rw [HSQ.out]; exact e
      have HNA := Lib.hid hna
      clear hna bk
      go_wp2_with fail
      refine (trim_any _ HNA.out (by omega)).mono ?_
      rintro e w' h
      have h := h.lift hbl
      obtain ⟨A', c', rfl, ho, hb⟩ := h
      go_wp2_with fail
      go_ret
      exact ⟨A', c', rfl, ho, hb⟩
theorem up_any (w : World) {A : Option Addr} {n c x : Nat} (s : Nat) (hx : NA w A n c x) (hn : n ≤ 524288) (hs : s ≤ 65536) :
    Calls Tryz.prog 164 #[.slice A n c, .int .i64 s] w (RetN (x * 2 ^ s) w) := up_gen w s s hx hn hs (by omega)
end Go.Proofs.YtdmglajfmfjmlaaGreat
namespace Go.Proofs.YtdmglajfmfjmlaaGreat
set_option linter.unusedSimpArgs false
set_option linter.unusedVariables false
set_option maxRecDepth 100000
open Go.RowKit
theorem down_limb {d d' r E E' : Nat} (hr : r ≤ 63) (hd : d < 18446744073709551616) (hd' : d' < 18446744073709551616) (hE : E = d + 18446744073709551616 * E') (hE' : ∃ F, E' = d' + 18446744073709551616 * F) :
    (d / 2 ^ r ||| d' * 2 ^ (63 - r) % 18446744073709551616 * 2 % 18446744073709551616) < 18446744073709551616 ∧
    E / 2 ^ r = (d / 2 ^ r ||| d' * 2 ^ (63 - r) % 18446744073709551616 * 2 % 18446744073709551616) + 18446744073709551616 * (E' / 2 ^ r) := by
  obtain ⟨F, hF⟩ := hE'
  have hp : 0 < 2 ^ r := Nat.pow_pos (by omega)
  have hp2 : 0 < 2 ^ (64 - r) := Nat.pow_pos (by omega)
  have e64 : 2 ^ (64 - r) * 2 ^ r = 18446744073709551616 := by rw [← Nat.pow_add, Nat.sub_add_cancel (by omega)]
  have e63 : 2 ^ (63 - r) * 2 = 2 ^ (64 - r) := by rw [← Nat.pow_succ, show (63 - r).succ = 64 - r by omega]
  have h1 : d' * 2 ^ (63 - r) % 18446744073709551616 * 2 % 18446744073709551616 = d' * 2 ^ (64 - r) % 18446744073709551616 := by
    rw [Nat.mod_mul_mod, Nat.mul_assoc, e63]
  have h2 : d' * 2 ^ (64 - r) % 18446744073709551616 = 2 ^ (64 - r) * (d' % 2 ^ r) := by
    rw [← e64, Nat.mul_comm d', Nat.mul_mod_mul_left]
  have hlo : d / 2 ^ r < 2 ^ (64 - r) := by rw [Nat.div_lt_iff_lt_mul hp, e64]; exact hd
  have hor : (d / 2 ^ r ||| 2 ^ (64 - r) * (d' % 2 ^ r)) = d / 2 ^ r + 2 ^ (64 - r) * (d' % 2 ^ r) := or_apart' hlo (Nat.mul_mod_right _ _)
  rw [h1, h2, hor]
  have hm := Nat.mod_lt d' hp
  have hb : 2 ^ (64 - r) * (d' % 2 ^ r) + 2 ^ (64 - r) ≤ 18446744073709551616 := by
    have := Nat.mul_le_mul_left (2 ^ (64 - r)) (show d' % 2 ^ r + 1 ≤ 2 ^ r from hm)
    rw [e64, Nat.mul_add] at this; omega
  refine ⟨by omega, ?_⟩
  have hq : E / 2 ^ r = d / 2 ^ r + 2 ^ (64 - r) * E' := by
    rw [hE, ← e64, Nat.mul_right_comm, Nat.mul_comm _ (2 ^ r), Nat.add_mul_div_left _ _ hp]
  have hq' : E' = 2 ^ r * (E' / 2 ^ r) + d' % 2 ^ r := by
    have e1 : E' % 2 ^ r = d' % 2 ^ r := by
      rw [hF, ← e64, Nat.mul_right_comm, Nat.add_mul_mod_self_right]
    have := Nat.div_add_mod E' (2 ^ r)
    omega
  rw [hq]
  have e2 := congrArg (2 ^ (64 - r) * ·) hq'
  simp only [Nat.mul_add] at e2
  rw [← Nat.mul_assoc, e64] at e2
  omega
theorem down_step {N S T E E' v : Nat} {ws : List Nat} (hS : nv ws + 18446744073709551616 ^ T * E = N) (hl : ws.length = T) (hv : E = v + 18446744073709551616 * E') (_hs : S = v) : nv (ws ++ [v]) + 18446744073709551616 ^ (T + 1) * E' = N := by
  rw [nv_append, hl, Nat.pow_succ, ← hS, hv, Nat.mul_add]
  simp only [nv, Nat.mul_zero, Nat.add_zero]
  rw [Nat.mul_assoc]; omega
theorem nv_drop_any (xs : List Nat) (j : Nat) : nv (xs.drop j) = gd xs j + 18446744073709551616 * nv (xs.drop (j + 1)) := by
  rcases Nat.lt_or_ge j xs.length with h | h
  · exact nv_drop h
  · rw [List.drop_eq_nil_of_le h, List.drop_eq_nil_of_le (by omega), gd_ge h]; simp [nv]
theorem nv_drop_div {xs : List Nat} (h : B64 xs) (q : Nat) : nv (xs.drop q) = nv xs / 18446744073709551616 ^ q := by
  rcases Nat.lt_or_ge q xs.length with hq | hq
  · have := nv_split xs q (by omega)
    have hl := nv_take_lt h q
    rw [this, Nat.add_mul_div_left _ _ (Nat.pow_pos (by omega)), Nat.div_eq_of_lt hl, Nat.zero_add]
  · rw [List.drop_eq_nil_of_le hq, Nat.div_eq_of_lt]
    · rfl
    · exact Nat.lt_of_lt_of_le (nv_lt h) (Nat.pow_le_pow_right (by omega) hq)
set_option maxHeartbeats 1000000 in
theorem right_any (w : World) {A : Option Addr} {n c x : Nat} (s : Nat) (hx : NA w A n c x) (hn : n ≤ 524288) (hs : s ≤ 65536) :
    Calls Tryz.prog 197 #[.slice A n c, .int .i64 s] w (RetN (x / 2 ^ s) w) := by
  obtain ⟨xs, hx, bx, rfl⟩ := hx
  obtain ⟨i0, hi0, hz0, hz1, hz2⟩ := info_parts u64_info
  have HX := Lib.hid hx
  have BX := Lib.hid bx
  obtain ⟨q, hq⟩ : ∃ q, s / 64 = q := ⟨_, rfl⟩
  obtain ⟨r, hr⟩ : ∃ r, s % 64 = r := ⟨_, rfl⟩
  have hsqr : s = 64 * q + r := by omega
  have hr63 : r ≤ 63 := by omega
  have d1 : (s : Int) / 64 = (q : Int) := by omega
  have d2 : (s : Int).tdiv 64 = (q : Int) := by rw [Int.tdiv_eq_ediv_of_nonneg (by omega)]; omega
  have d3 : (s : Int) % 64 = (r : Int) := by omega
  have d4 : (s : Int).tmod 64 = (r : Int) := by rw [Int.tmod_eq_emod_of_nonneg (by omega)]; omega
  have d5 : IntKind.i64.wrap (q : Int) = (q : Int) := IntWalk.i64_in _ (by omega)
  have hstart : nv [] + 18446744073709551616 ^ 0 * (nv (xs.drop q) / 2 ^ r) = nv xs / 2 ^ s := by
    rw [nv_drop_div bx, wpow q, Nat.div_div_eq_div_mul, ← Nat.pow_add, ← hsqr]; simp [nv]
  have HST := Lib.hid hstart
  have hq1024 : q ≤ 1024 := by omega
  clear hx bx hsqr hq hr hstart
  go_enter Tryz.func197, Tryz.ntmps197
  go_wp2_with fail
  go_loopw [5, 6] (fun v i wr => ∃ (t : Nat) (A1 : Option Addr) (c1 : Nat) (ws : List Nat), (t = 0 ∨ q + t ≤ n) ∧ i = .int .i64 ((q + t : Nat) : Int) ∧ v = .slice A1 t c1 ∧ Own .u64 23 wr w.heap.size A1 t c1 ws ∧ B64 ws ∧ Below w.heap.size w wr ∧ nv ws + 18446744073709551616 ^ t * (nv (xs.drop (q + t)) / 2 ^ r) = nv xs / 2 ^ s) (fun _ i _ => n - (intOf i).toNat)
  case atStart => exact ⟨0, none, 0, [], .inl rfl, rfl, rfl, Own.nil _ _ _ _, B64.nil, Below.refl _ _, HST.out⟩
  case round =>
    obtain ⟨t, A1, c1, ws, ht, rfl, rfl, how, bw, hbl, hinv⟩ := hrel
    have HI := Lib.hid hinv
    have HO := Lib.hid how
    clear hinv how
    obtain ⟨j, hj⟩ : ∃ j, q + t = j := ⟨_, rfl⟩
    rw [hj] at HI ⊢
    by_cases hlt : j < n
    · obtain ⟨ad, rfl, hb, hc⟩ := HX.out.form (by omega)
      have hxc := (hbl.cell (p := ad.add j) (adlt hb j)).trans (hc j hlt)
      obtain ⟨d, hd⟩ : ∃ d, gd xs j = d := ⟨_, rfl⟩
      obtain ⟨d', hd'⟩ : ∃ d', gd xs (j + 1) = d' := ⟨_, rfl⟩
      rw [hd] at hxc
      have hd64 : d < 18446744073709551616 := by rw [← hd]; exact BX.out.gd j
      have hd'64 : d' < 18446744073709551616 := by rw [← hd']; exact BX.out.gd (j + 1)
      obtain ⟨hv64, hvE⟩ := down_limb hr63 hd64 hd'64 (nv_drop_any xs j |>.trans (by rw [hd])) ⟨_, nv_drop_any xs (j + 1) |>.trans (by rw [hd'])⟩
      obtain ⟨p1, hp1⟩ : ∃ p1, d / 2 ^ r = p1 := ⟨_, rfl⟩
      obtain ⟨p2, hp2⟩ : ∃ p2, d' * 2 ^ (63 - r) % 18446744073709551616 = p2 := ⟨_, rfl⟩
      obtain ⟨p3, hp3⟩ : ∃ p3, p2 * 2 % 18446744073709551616 = p3 := ⟨_, rfl⟩
      have hp1b : p1 < 18446744073709551616 := by rw [← hp1]; exact Nat.lt_of_le_of_lt (Nat.div_le_self _ _) hd64
      have hp3b : p3 < 18446744073709551616 := by rw [← hp3]; exact Nat.mod_lt _ (by omega)
      have e1 : (d : Int) / 2 ^ r = (p1 : Int) := by rw [← hp1]; push_cast; rfl
      have e2 : IntKind.u64.wrap ((d' : Int) * 2 ^ (63 - r)) = (p2 : Int) := by
        rw [show (d' : Int) * 2 ^ (63 - r) = ((d' * 2 ^ (63 - r) : Nat) : Int) by push_cast; rfl, wrap_u64_nat, hp2]
      have e3 : IntKind.u64.wrap ((p2 : Int) * 2) = (p3 : Int) := wrap_of (by omega)
      have e4 : IntKind.i64.wrap (63 - (r : Int)) = ((63 - r : Nat) : Int) := by rw [IntWalk.i64_in _ (by omega)]; omega
      have e5 := or_u64 hp1b hp3b
      rw [hp1, hp2, hp3] at hv64 hvE
      obtain ⟨v, hv⟩ : ∃ v, (p1 ||| p3) = v := ⟨_, rfl⟩
      rw [hv] at e5 hv64 hvE
      have e6 : IntKind.i64.wrap ((j : Int) + 1) = (j : Int) + 1 := IntWalk.i64_in _ (by omega)
      have j0 : (0 : Int) ≤ (j : Int) := by omega
      have j1 : (j : Int) < (n : Int) := by omega
      have hk4 : j + 1 ≤ 4611686018427387904 := by omega
      have HVE := Lib.hid hvE
      have HD := Lib.hid hd'
      have hlim := limb_any wr.drew (HX.out.below (Below.drew hbl)) (j + 1) hk4
      rw [hd'] at hlim
      have HLIM := Lib.hid hlim
      have S0 : wr.drew.cell? (ad.add j) = some (.int .u64 (d : Int)) := hxc
      have hbs := hbl.size
      have hbb : (ad.add j).block < wr.heap.size := adlt (by omega) j
      have S1 : (wr.drew.alloc (.cells #[.int .u64 (v : Int)] 23)).cell? (ad.add j) = some (.int .u64 (d : Int)) := (World.cell?_alloc_lt _ _ _ hbb).trans S0
      have HO1 := Lib.hid (((HO.out.below (Below.drew (Below.refl _ _))).below ((Below.refl _ _).alloc (Nat.le_refl _) (.cells #[.int .u64 (v : Int)] 23))) : Own .u64 23 (wr.drew.alloc (.cells #[.int .u64 (v : Int)] 23)) w.heap.size A1 t c1 ws)
      have HR1 := Lib.hid ((Own.of_bk (k := .u64) (xs := [v]) (base := 0) (Bk.new wr.drew 23 (va .u64 [v])) (by omega) rfl (by simp)).rd : Rd .u64 (wr.drew.alloc (.cells #[.int .u64 (v : Int)] 23)) (some ⟨wr.heap.size, 0, none⟩) 1 1 [v])
      have hb9 : w.heap.size ≤ (wr.drew.alloc (.cells #[.int .u64 (v : Int)] 23)).heap.size := by simp; omega
      have HB1 : Below w.heap.size w (wr.drew.alloc (.cells #[.int .u64 (v : Int)] 23)) := by (repeat (first | (with_reducible exact Below.refl _ _) | (with_reducible assumption) | (with_reducible refine Below.drew ?_) | (with_reducible refine below_drewN ?_ _) | ((with_reducible refine Below.setCell ?_ (p := ⟨_, _, _⟩) ?_ _); rotate_left; (simp <;> omega)) | ((with_reducible refine Below.alloc ?_ ?_ _); rotate_left; (simp <;> omega)) | ((with_reducible refine Below.trans ?_ (Below.mono (by with_reducible assumption) ?_)); rotate_left; (simp <;> omega))))
      clear hvE hd' hd hlim hp1 hp2 hp3 hv hc
      go_wp2_with fail
      go_region_held3 (fun w' => w'.cell? (ad.add j) = some (.int .u64 (d : Int)))
        (first | exact S0 | exact S1 | (refine (Below.cell (B := w.heap.size) (by assumption) (p := ad.add j) (adlt hb j)).trans ?_; exact S1))
        (first | (go_at_call 127; refine HLIM.out.mono ?_; rintro e w' ⟨rfl, rfl⟩) | (refine step_append_rd _ (by rfl) _ _ _ (by rfl) .u64 w.heap.size 23 i0 (.int .u64 0) 8 Tryz.underlying22 hi0 hz0 hz1 hz2 rfl A1 t c1 ws (by rfl) HO1.out (some ⟨wr.heap.size, 0, none⟩) 1 1 [v] (by rfl) HR1.out (by simp only [maxLen]; omega) (by omega) hb9 ?_; intro A' c' w1 ho' hb' _ _))
      clear S0 S1
      have HO' := Lib.hid ho'
      have HB' := Lib.hid hb'
      clear ho' hb'
      go_wp2_with fail
      refine ⟨⟨t + 1, A', c', ws ++ [v], .inr (by omega), ?_, rfl, HO'.out, bw.append (B64.cons hv64 B64.nil), HB1.trans HB'.out, ?_⟩, by simp [intOf]; omega⟩
      · rw [show q + (t + 1) = j + 1 by omega]; rfl
      · have := down_step (T := t) (S := v) HI.out HO.out.len HVE.out rfl
        rw [show q + (t + 1) = j + 1 by omega]
        exact this
    · have hna : NA wr A1 t c1 (nv xs / 2 ^ s) := by
        refine ⟨ws, HO.out.rd, bw, ?_⟩
        have e := HI.out
        rw [List.drop_eq_nil_of_le (by rw [HX.out.len]; omega)] at e
        simpa [nv] using e
      have HNA := Lib.hid hna
      clear hna
      go_wp2_with fail
      refine (trim_any _ HNA.out (by omega)).mono ?_
      rintro e w' h
      have h := h.lift hbl
      obtain ⟨A', c', rfl, ho, hb⟩ := h
      go_wp2_with fail
      go_ret
      exact ⟨A', c', rfl, ho, hb⟩
set_option maxHeartbeats 400000 in
theorem down_gen (w : World) {A : Option Addr} {n c x : Nat} (s : Nat) (t0 : Int) (hx : NA w A n c x) (hn : n ≤ 524288) (hs : s ≤ 65536) (hs0 : 0 < s) (m1 : min t0 65536 = t0) (m2 : max t0 (-65536) = -(s : Int)) :
    Calls Tryz.prog 164 #[.slice A n c, .int .i64 t0] w (RetN (x / 2 ^ s) w) := by
  have HX := Lib.hid hx
  clear hx
  go_enter Tryz.func164, Tryz.ntmps164
  go_wp2_with fail
  refine (right_any w s HX.out hn hs).mono ?_
  rintro e w' h
  obtain ⟨A', c', rfl, ho, hb⟩ := h
  go_wp2_with fail
  go_ret
  exact ⟨A', c', rfl, ho, hb⟩
theorem down_any (w : World) {A : Option Addr} {n c x : Nat} (s : Nat) (hx : NA w A n c x) (hn : n ≤ 524288) (hs : s ≤ 65536) (hs0 : 0 < s) :
    Calls Tryz.prog 164 #[.slice A n c, .int .i64 (-(s : Int))] w (RetN (x / 2 ^ s) w) := down_gen w s _ hx hn hs hs0 (by omega) (by omega)
end Go.Proofs.YtdmglajfmfjmlaaGreat
namespace Go.Proofs.YtdmglajfmfjmlaaGreat
set_option linter.unusedSimpArgs false
set_option linter.unusedVariables false
set_option maxRecDepth 100000
open Go.RowKit
theorem Own.cellAt {k : IntKind} {e : TypeId} {w : World} {base g n c : Nat} {xs : List Nat} (h : Own k e w base (some ⟨g, 0, none⟩) n c xs) {j : Nat} (hj : j < n) : w.cell? ⟨g, j, none⟩ = some (.int k ((gd xs j : Nat) : Int)) := by
  rw [World.ownsRow.cellAt h j (by omega), vs_get, gd_get (by rw [h.len]; exact hj)]; rfl
theorem Own.frozenAt {k : IntKind} {e : TypeId} {w : World} {base g n c : Nat} {xs : List Nat} (h : Own k e w base (some ⟨g, 0, none⟩) n c xs) (j : Nat) : w.frozen? ⟨g, j, none⟩ = false := World.ownsRow.frozenAt h j
theorem Own.store {k : IntKind} {e : TypeId} {w : World} {base g n c : Nat} {xs : List Nat} (h : Own k e w base (some ⟨g, 0, none⟩) n c xs) (j y : Nat) : Own k e (w.setCell ⟨g, j, none⟩ (.int k (y : Int))) base (some ⟨g, 0, none⟩) n c (xs.set j y) := by
  have := (World.ownsRow.stored h j (.int k (y : Int))).1
  unfold Own
  rw [show vs k (xs.set j y) = (vs k xs).set j (.int k (y : Int)) by simp [vs, List.map_set]]
  exact this
theorem Own.drewN {k : IntKind} {e : TypeId} {w : World} {base n c : Nat} {A : Option Addr} {xs : List Nat} (h : Own k e w base A n c xs) (m : Nat) : Own k e (w.drewN m) base A n c xs := h
theorem grown_refl (w : World) (r : Option Nat) : w.grownBy w r := World.grownBy.refl w r
theorem grown_set {w w' : World} {g : Nat} (h : w.grownBy w' (some g)) (j : Nat) (u : Value) : w.grownBy (w'.setCell ⟨g, j, none⟩ u) (some g) :=
  ⟨h.os, h.tape, h.output, by simpa using h.size, fun k hk hne => (Below.heap_setCell w' ⟨g, j, none⟩ u k (fun e => hne (by simp [e]))).trans (h.block k hk hne)⟩
theorem grown_drewN {w w' : World} {r : Option Nat} (h : w.grownBy w' r) (n : Nat) : w.grownBy (w'.drewN n) r := ⟨h.os, h.tape, h.output, h.size, h.block⟩
theorem Rd.grown {k : IntKind} {w w' : World} {A : Option Addr} {n c : Nat} {xs : List Nat} {g : Nat} (h : Rd k w A n c xs) (hg : w.grownBy w' (some g)) (hne : ∀ ad, A = some ad → ad.block ≠ g) : Rd k w' A n c xs := by
  obtain ⟨h1, h2, h3, h4⟩ := h
  refine ⟨h1, h2, h3, fun hn => ?_⟩
  obtain ⟨ad, rfl, hlt, hc⟩ := h4 hn
  exact ⟨ad, rfl, Nat.lt_of_lt_of_le hlt hg.size, fun j x hx => (World.cell?_of_block (a := ad.add j) (by rw [Go.ChangeShapes.block_add]; exact hg.block _ hlt (by simpa using hne ad rfl))).trans (hc j x hx)⟩
def guessN (u1 u0 top : Nat) : Nat := if top ≤ u1 then 18446744073709551615 else (u1 * 18446744073709551616 + u0) / top
set_option maxHeartbeats 400000 in
theorem guess_any (w : World) {A : Option Addr} {n c : Nat} {us : List Nat} (h : Rd .u64 w A n c us) (bu : B64 us) (i top : Nat) (hi : 0 < i) (hin : i < n) (ht : top < 18446744073709551616) :
    Calls Tryz.prog 165 #[.slice A n c, .int .i64 i, .int .u64 top] w fun e w' => e = .returned (.int .u64 ((guessN (gd us i) (gd us (i - 1)) top : Nat) : Int)) ∧ ∃ m, w' = w.drewN m := by
  obtain ⟨ad, rfl, hb, hc⟩ := h.form (by omega)
  obtain ⟨j, hj⟩ : ∃ j, i - 1 = j := ⟨_, rfl⟩
  rw [hj]
  have hij : i ≤ j + 1 := by omega
  have hji : j + 1 ≤ i := by omega
  clear hj
  have c1 := hc i hin
  have c0 := hc j (by omega)
  have hm := h.max
  have hcp := h.cap
  have g1 := bu.gd i
  have g0 := bu.gd j
  clear hc h
  obtain ⟨a, ha⟩ : ∃ a, gd us i = a := ⟨_, rfl⟩
  obtain ⟨b0, hb0⟩ : ∃ b0, gd us j = b0 := ⟨_, rfl⟩
  rw [ha] at c1 g1 ⊢
  rw [hb0] at c0 g0 ⊢
  clear ha hb0
  by_cases ht1 : top ≤ a
  · have H := Lib.hid (show guessN a b0 top = 18446744073709551615 by unfold guessN; rw [if_pos ht1])
    have d1 : decide (top ≤ a) = true := by simpa using ht1
    clear ht1
    go_enter Tryz.func165, Tryz.ntmps165
    go_wp2_with fail
    go_ret
    exact ⟨by rw [H.out]; rfl, 0, rfl⟩
  · have H := Lib.hid (show guessN a b0 top = (a * 18446744073709551616 + b0) / top by unfold guessN; rw [if_neg ht1])
    have d1 : decide (top ≤ a) = false := by simpa using ht1
    have i1 : IntKind.i64.wrap ((i : Int) - 1) = (j : Int) := by rw [IntWalk.i64_in _ (by omega)]; omega
    have i2 : (0 : Int) ≤ (j : Int) := by omega
    have i3 : (j : Int) < (n : Int) := by omega
    have i4 : (0 : Int) ≤ (i : Int) := by omega
    have i5 : (i : Int) < (n : Int) := by omega
    have HD := Lib.hid (fun w => div64_any w a b0 top g0 (by omega) ht)
    clear ht1
    go_enter Tryz.func165, Tryz.ntmps165
    go_wp2_with fail
    go_quiet ((go_at_call 196; exact Calls.quiet_of (HD.out _)))
    go_wp2_with fail
    go_ret
    exact ⟨by rw [H.out]; rfl, nq, rfl⟩
end Go.Proofs.YtdmglajfmfjmlaaGreat
namespace Go.Proofs.YtdmglajfmfjmlaaGreat
set_option linter.unusedSimpArgs false
set_option linter.unusedVariables false
set_option maxRecDepth 100000
open Go.RowKit
def RetU (g base nu cu : Nat) (w : World) (P : Bool → List Nat → Prop) (e : Ending) (w' : World) : Prop :=
  ∃ (r : Bool) (us' : List Nat), e = .returned (.bool r) ∧ Own .u64 23 w' base (some ⟨g, 0, none⟩) nu cu us' ∧ B64 us' ∧ w.grownBy w' (some g) ∧ P r us'
def Above (K : Nat) (xs ys : List Nat) : Prop := ∀ t, K < t → gd ys t = gd xs t
theorem Above.refl (K : Nat) (xs : List Nat) : Above K xs xs := fun _ _ => rfl
theorem Above.set {K : Nat} {xs ys : List Nat} (h : Above K xs ys) {i : Nat} (hi : i ≤ K) (y : Nat) : Above K xs (ys.set i y) := fun t ht => by rw [gd_set (by omega)]; exact h t ht
theorem Above.trans {K : Nat} {xs ys zs : List Nat} (h : Above K xs ys) (h' : Above K ys zs) : Above K xs zs := fun t ht => (h' t ht).trans (h t ht)
theorem give_stepW {W S S' U Vt P Q x c o s c' : Nat} (hn : S' + P * o = S + P * s) (hd : o + x + c = s + W * c') (h : S + P * c = U + Vt * Q) {y : Nat} (hy : P * x = y * Q) : S' + P * W * c' = U + (Vt + y) * Q := by
  have e := congrArg (P * ·) hd
  simp only [Nat.mul_add] at e
  rw [← Nat.mul_assoc] at e
  rw [Nat.add_mul, ← hy]
  omega
theorem give_step {S S' U Vt P Q x c o s c' : Nat} (hn : S' + P * o = S + P * s) (hd : o + x + c = s + 18446744073709551616 * c') (h : S + P * c = U + Vt * Q) {y : Nat} (hy : P * x = y * Q) : S' + P * 18446744073709551616 * c' = U + (Vt + y) * Q :=
  give_stepW hn hd h hy
theorem take_stepW {W S S' U Vt P Q q x cy bo o s lo cy' bo' : Nat} (hn : S' + P * o = S + P * s) (h1 : x * q + cy = lo + W * cy') (h2 : o + W * bo' = s + lo + bo) (h : S + q * Vt * Q = U + P * (cy + bo)) {y : Nat} (hy : P * x = y * Q) :
    S' + q * (Vt + y) * Q = U + P * W * (cy' + bo') := by
  have e1 := congrArg (P * ·) h1
  have e2 := congrArg (P * ·) h2
  simp only [Nat.mul_add] at e1 e2 h ⊢
  rw [← Nat.mul_assoc P W] at e1 e2
  rw [Nat.add_mul, Nat.mul_assoc q y Q, ← hy]
  have e3 : P * (x * q) = q * (P * x) := by rw [Nat.mul_comm x q, Nat.mul_left_comm]
  rw [e3] at e1
  omega
theorem take_step {S S' U Vt P Q q x cy bo o s lo cy' bo' : Nat} (hn : S' + P * o = S + P * s) (h1 : x * q + cy = lo + 18446744073709551616 * cy') (h2 : o + 18446744073709551616 * bo' = s + lo + bo) (h : S + q * Vt * Q = U + P * (cy + bo)) {y : Nat} (hy : P * x = y * Q) :
    S' + q * (Vt + y) * Q = U + P * 18446744073709551616 * (cy' + bo') := take_stepW hn h1 h2 h hy
theorem pow_shiftW (W j t x : Nat) : W ^ (j + t) * x = W ^ t * x * W ^ j := by rw [Nat.pow_add, Nat.mul_comm (W^j), Nat.mul_assoc, Nat.mul_comm (W^j), Nat.mul_assoc]
theorem pow_shift (j t x : Nat) : 18446744073709551616 ^ (j + t) * x = 18446744073709551616 ^ t * x * 18446744073709551616 ^ j := pow_shiftW _ j t x
set_option maxHeartbeats 1000000 in
theorem give_any (w : World) {base g nu cu m d : Nat} {B : Option Addr} {us ys : List Nat} (h : Own .u64 23 w base (some ⟨g, 0, none⟩) nu cu us) (bu : B64 us) (hv : Rd .u64 w B m d ys) (bv : B64 ys)
    (hne : ∀ ad, B = some ad → ad.block ≠ g) (j : Nat) (hj : j + m < nu) (hnu : nu ≤ 2097152) :
    Calls Tryz.prog 167 #[.slice (some ⟨g, 0, none⟩) nu cu, .slice B m d, .int .i64 j] w (RetU g base nu cu w fun r us' => nv us' + 18446744073709551616 ^ (j + m + 1) * (if r then 1 else 0) = nv us + nv ys * 18446744073709551616 ^ j ∧ Above (j + m) us us') := by
  have H := Lib.hid h
  have BU := Lib.hid bu
  have HV := Lib.hid hv
  have BV := Lib.hid bv
  have HNE := Lib.hid hne
  clear h bu hv bv hne
  go_enter Tryz.func167, Tryz.ntmps167
  go_wp2_with fail
  go_loopw [7, 12] (fun cv i wr => ∃ (t cy : Nat) (vs' : List Nat), t ≤ m ∧ cy ≤ 1 ∧ i = .int .i64 (t : Int) ∧ cv = .int .u64 (cy : Int) ∧ Own .u64 23 wr base (some ⟨g, 0, none⟩) nu cu vs' ∧ B64 vs' ∧ w.grownBy wr (some g) ∧ nv vs' + 18446744073709551616 ^ (j + t) * cy = nv us + nv (ys.take t) * 18446744073709551616 ^ j ∧ Above (j + m) us vs') (fun _ i _ => m - (intOf i).toNat)
  case atStart => exact ⟨0, 0, us, by omega, by omega, rfl, rfl, H.out, BU.out, grown_refl _ _, by simp [nv], Above.refl _ _⟩
  case round =>
    obtain ⟨t, cy, zs, ht, hcy, rfl, rfl, how, bz, hgr, hinv, hab⟩ := hrel
    have HAB := Lib.hid hab
    clear hab
    have HI := Lib.hid hinv
    have HO := Lib.hid how
    have HG := Lib.hid hgr
    clear hinv
    by_cases hlt : t < m
    · obtain ⟨ad, rfl, hb, hc⟩ := (HV.out.grown hgr HNE.out).form (by omega)
      have hxc := hc t hlt
      have hcell := how.cellAt (show j + t < nu by omega)
      have hfr := how.frozenAt (j + t)
      have hadd := run_add (gd zs (j + t)) (gd ys t) cy hcy
      have hgx := BV.out.gd t
      have hgo := bz.gd (j + t)
      obtain ⟨s, hs⟩ : ∃ s, (gd zs (j + t) + gd ys t + cy) % 18446744073709551616 = s := ⟨_, rfl⟩
      obtain ⟨q, hq⟩ : ∃ q, (gd zs (j + t) + gd ys t + cy) / 18446744073709551616 = q := ⟨_, rfl⟩
      rw [hs, hq] at hadd
      have hd : gd zs (j + t) + gd ys t + cy = s + 18446744073709551616 * q := by omega
      have hq1 : q ≤ 1 := by omega
      have hs64 : s < 18446744073709551616 := by rw [← hs]; exact Nat.mod_lt _ (by omega)
      have HD := Lib.hid hd
      have hcu := (HO.out.rd).max
      have hcu2 := (HO.out.rd).cap
      clear hc how hgr hs hq hd hgx hgo
      go_wp2_with fail
      refine ⟨⟨t + 1, q, zs.set (j + t) s, by omega, hq1, by go_num, rfl, HO.out.store (j + t) s, bz.set hs64, grown_set HG.out _ _, ?_, HAB.out.set (by omega) _⟩, by simp [intOf]; omega⟩
      rw [nv_take, ← Nat.add_assoc, Nat.pow_succ]
      exact give_step (nv_set s (by rw [HO.out.len]; omega)) HD.out HI.out (pow_shift _ _ _)
    · obtain rfl : m = t := by omega
      have hcell := how.cellAt hj
      have hfr := how.frozenAt (j + m)
      have hadd := run_add (gd zs (j + m)) cy 0 (by omega)
      have hgo := bz.gd (j + m)
      obtain ⟨s, hs⟩ : ∃ s, (gd zs (j + m) + cy + 0) % 18446744073709551616 = s := ⟨_, rfl⟩
      obtain ⟨q, hq⟩ : ∃ q, (gd zs (j + m) + cy + 0) / 18446744073709551616 = q := ⟨_, rfl⟩
      rw [hs, hq] at hadd
      simp only [Int.natCast_zero] at hadd
      have hd : gd zs (j + m) + 0 + cy = s + 18446744073709551616 * q := by omega
      have hq1 : q = 0 ∨ q = 1 := by omega
      have hs64 : s < 18446744073709551616 := by rw [← hs]; exact Nat.mod_lt _ (by omega)
      have hfin := give_step (nv_set s (show j + m < zs.length by rw [HO.out.len]; exact hj)) hd HI.out (show 18446744073709551616 ^ (j + m) * 0 = 0 * 18446744073709551616 ^ j by simp)
      rw [← Nat.pow_succ, Nat.add_zero, List.take_of_length_le (by rw [HV.out.len]; omega)] at hfin
      have HF := Lib.hid hfin
      have hcu := (HO.out.rd).max
      have hcu2 := (HO.out.rd).cap
      clear how hgr hs hq hd hgo hfin
      rcases hq1 with rfl | rfl
      · go_wp2_with fail
        go_ret
        refine ⟨false, zs.set (j + m) s, rfl, HO.out.store (j + m) s, bz.set hs64, grown_set HG.out _ _, ?_⟩
        simp only [Bool.false_eq_true, if_true, if_false]
        exact ⟨HF.out, HAB.out.set (by omega) _⟩
      · go_wp2_with fail
        go_ret
        refine ⟨true, zs.set (j + m) s, rfl, HO.out.store (j + m) s, bz.set hs64, grown_set HG.out _ _, ?_⟩
        simp only [Bool.false_eq_true, if_true, if_false]
        exact ⟨HF.out, HAB.out.set (by omega) _⟩
end Go.Proofs.YtdmglajfmfjmlaaGreat
namespace Go.Proofs.YtdmglajfmfjmlaaGreat
set_option linter.unusedSimpArgs false
set_option linter.unusedVariables false
set_option maxRecDepth 100000
open Go.RowKit
theorem take_digit {x q cy h l lo c : Nat} (hx : x < 18446744073709551616) (hq : q < 18446744073709551616) (hc : cy < 18446744073709551616)
    (eh : x * q / 18446744073709551616 = h) (el : x * q % 18446744073709551616 = l) (e1 : (l + cy + 0) % 18446744073709551616 = lo) (e2 : (l + cy + 0) / 18446744073709551616 = c) :
    x * q + cy = lo + 18446744073709551616 * (h + c) ∧ h + c < 18446744073709551616 ∧ lo < 18446744073709551616 ∧ c ≤ 1 ∧ h < 18446744073709551616 := by
  have hm : x * q ≤ 18446744073709551615 * 18446744073709551615 := Nat.mul_le_mul (by omega) (by omega)
  generalize x * q = p at *
  omega
theorem borrow_digit {o lo bo s b : Nat} (ho : o < 18446744073709551616) (hl : lo < 18446744073709551616) (hb : bo ≤ 1)
    (hs : (o + 18446744073709551616 - lo - bo) % 18446744073709551616 = s) (hd : (if o < lo + bo then 1 else 0 : Nat) = b) : o + 18446744073709551616 * b = s + lo + bo ∧ b ≤ 1 ∧ s < 18446744073709551616 := by
  by_cases h : o < lo + bo
  · rw [if_pos h] at hd; omega
  · rw [if_neg h] at hd; omega
set_option maxHeartbeats 1000000 in
theorem take_any (w : World) {base g nu cu m d : Nat} {B : Option Addr} {us ys : List Nat} (h : Own .u64 23 w base (some ⟨g, 0, none⟩) nu cu us) (bu : B64 us) (hv : Rd .u64 w B m d ys) (bv : B64 ys)
    (hne : ∀ ad, B = some ad → ad.block ≠ g) (j q : Nat) (hj : j + m < nu) (hnu : nu ≤ 2097152) (hq64 : q < 18446744073709551616) :
    Calls Tryz.prog 166 #[.slice (some ⟨g, 0, none⟩) nu cu, .slice B m d, .int .i64 j, .int .u64 q] w (RetU g base nu cu w fun r us' => nv us' + q * nv ys * 18446744073709551616 ^ j = nv us + 18446744073709551616 ^ (j + m + 1) * (if r then 1 else 0) ∧ Above (j + m) us us') := by
  have H := Lib.hid h
  have BU := Lib.hid bu
  have HV := Lib.hid hv
  have BV := Lib.hid bv
  have HNE := Lib.hid hne
  clear h bu hv bv hne
  go_enter Tryz.func166, Tryz.ntmps166
  go_wp2_with fail
  go_loopw [9, 10, 18] (fun bv cv i wr => ∃ (t cy bo : Nat) (vs' : List Nat), t ≤ m ∧ cy < 18446744073709551616 ∧ bo ≤ 1 ∧ i = .int .i64 (t : Int) ∧ cv = .int .u64 (cy : Int) ∧ bv = .int .u64 (bo : Int) ∧ Own .u64 23 wr base (some ⟨g, 0, none⟩) nu cu vs' ∧ B64 vs' ∧ w.grownBy wr (some g) ∧ nv vs' + q * nv (ys.take t) * 18446744073709551616 ^ j = nv us + 18446744073709551616 ^ (j + t) * (cy + bo) ∧ Above (j + m) us vs') (fun _ _ i _ => m - (intOf i).toNat)
  case atStart => exact ⟨0, 0, 0, us, by omega, by omega, by omega, rfl, rfl, rfl, H.out, BU.out, grown_refl _ _, by simp [nv], Above.refl _ _⟩
  case round =>
    obtain ⟨t, cy, bo, zs, ht, hcy, hbo, rfl, rfl, rfl, how, bz, hgr, hinv, hab⟩ := hrel
    have HAB := Lib.hid hab
    clear hab
    have HI := Lib.hid hinv
    have HO := Lib.hid how
    have HG := Lib.hid hgr
    clear hinv
    by_cases hlt : t < m
    · obtain ⟨ad, rfl, hb, hc⟩ := (HV.out.grown hgr HNE.out).form (by omega)
      have hxc := hc t hlt
      have hcell := how.cellAt (show j + t < nu by omega)
      have hfr := how.frozenAt (j + t)
      have hgx := BV.out.gd t
      have hgo := bz.gd (j + t)
      have hmul := YtdmglajfmfjmlaaGreat.bits_Mul64 (gd ys t) q hgx hq64
      obtain ⟨h, eh⟩ : ∃ h, gd ys t * q / 18446744073709551616 = h := ⟨_, rfl⟩
      obtain ⟨l, el⟩ : ∃ l, gd ys t * q % 18446744073709551616 = l := ⟨_, rfl⟩
      rw [eh, el] at hmul
      have hadd := run_add l cy 0 (by omega)
      obtain ⟨lo, e1⟩ : ∃ lo, (l + cy + 0) % 18446744073709551616 = lo := ⟨_, rfl⟩
      obtain ⟨c, e2⟩ : ∃ c, (l + cy + 0) / 18446744073709551616 = c := ⟨_, rfl⟩
      rw [e1, e2] at hadd
      obtain ⟨hd1, hcy', hlo, hc1, hh⟩ := take_digit hgx hq64 hcy eh el e1 e2
      have hsub := run_sub (gd zs (j + t)) lo bo hbo
      obtain ⟨s, hs⟩ : ∃ s, (gd zs (j + t) + 18446744073709551616 - lo - bo) % 18446744073709551616 = s := ⟨_, rfl⟩
      obtain ⟨b, hbb⟩ : ∃ b : Nat, (if gd zs (j + t) < lo + bo then 1 else 0) = b := ⟨_, rfl⟩
      rw [hs, hbb] at hsub
      obtain ⟨hd2, hb1, hs64⟩ := borrow_digit hgo hlo hbo hs hbb
      have HD1 := Lib.hid hd1
      have HD2 := Lib.hid hd2
      have HMUL := Lib.hid hmul
      have hcu := (HO.out.rd).max
      have hcu2 := (HO.out.rd).cap
      simp only [Int.natCast_zero] at hadd
      clear hc how hgr hs hbb hd1 hd2 hgx hgo eh el e1 e2 hmul
      go_wp2_with fail
      refine (HMUL.out _).mono ?_
      rintro e w' ⟨rfl, rfl⟩
      go_wp2_with fail
      refine ⟨⟨t + 1, h + c, b, zs.set (j + t) s, by omega, hcy', hb1, by go_num, by go_num, rfl, HO.out.store (j + t) s, bz.set hs64, grown_set HG.out _ _, ?_, HAB.out.set (by omega) _⟩, by simp [intOf]; omega⟩
      rw [nv_take, ← Nat.add_assoc, Nat.pow_succ]
      exact take_step (nv_set s (by rw [HO.out.len]; omega)) HD1.out HD2.out HI.out (pow_shift _ _ _)
    · obtain rfl : m = t := by omega
      have hcell := how.cellAt hj
      have hfr := how.frozenAt (j + m)
      have hgo := bz.gd (j + m)
      have hsub := run_sub (gd zs (j + m)) cy bo hbo
      obtain ⟨s, hs⟩ : ∃ s, (gd zs (j + m) + 18446744073709551616 - cy - bo) % 18446744073709551616 = s := ⟨_, rfl⟩
      obtain ⟨b, hbb⟩ : ∃ b : Nat, (if gd zs (j + m) < cy + bo then 1 else 0) = b := ⟨_, rfl⟩
      rw [hs, hbb] at hsub
      obtain ⟨hd2, hb1, hs64⟩ := borrow_digit hgo hcy hbo hs hbb
      have hfin := take_step (nv_set s (show j + m < zs.length by rw [HO.out.len]; exact hj)) (show 0 * q + cy = cy + 18446744073709551616 * 0 by simp) hd2 HI.out (show 18446744073709551616 ^ (j + m) * 0 = 0 * 18446744073709551616 ^ j by simp)
      rw [← Nat.pow_succ, Nat.add_zero, List.take_of_length_le (by rw [HV.out.len]; omega), Nat.zero_add] at hfin
      have HF := Lib.hid hfin
      have hcu := (HO.out.rd).max
      have hcu2 := (HO.out.rd).cap
      have hq1 : b = 0 ∨ b = 1 := by omega
      clear how hgr hs hbb hd2 hgo hfin
      rcases hq1 with rfl | rfl
      · go_wp2_with fail
        go_ret
        refine ⟨false, zs.set (j + m) s, rfl, HO.out.store (j + m) s, bz.set hs64, grown_set HG.out _ _, ?_⟩
        simp only [Bool.false_eq_true, if_true, if_false]
        exact ⟨HF.out, HAB.out.set (by omega) _⟩
      · go_wp2_with fail
        go_ret
        refine ⟨true, zs.set (j + m) s, rfl, HO.out.store (j + m) s, bz.set hs64, grown_set HG.out _ _, ?_⟩
        simp only [Bool.false_eq_true, if_true, if_false]
        exact ⟨HF.out, HAB.out.set (by omega) _⟩
end Go.Proofs.YtdmglajfmfjmlaaGreat
namespace Go.Proofs.YtdmglajfmfjmlaaGreat
set_option linter.unusedSimpArgs false
set_option linter.unusedVariables false
set_option maxRecDepth 100000
theorem guess_lowW {W V v1 v' R T u1 u0 u' : Nat} (hv : V = v1 * R + v') (hT : T = (u1 * W + u0) * R + u') (hu' : u' < R) (hu0 : u0 < W) (hTV : T < V * W) (h1 : v1 ≤ u1 ∨ v1 > u1) (hv1 : 0 < v1) (hR : 0 < R) (hv' : v' < R) :
    T / V ≤ if v1 ≤ u1 then W - 1 else (u1 * W + u0) / v1 := by
  have hV : 0 < V := by rw [hv]; exact Nat.add_pos_left (Nat.mul_pos hv1 hR) _
  have hq : T / V < W := by rw [Nat.div_lt_iff_lt_mul hV, Nat.mul_comm]; exact hTV
  by_cases h : v1 ≤ u1
  · rw [if_pos h]; omega
  · rw [if_neg h, Nat.le_div_iff_mul_le hv1]
    have e := Nat.div_mul_le_self T V
    generalize T / V = q at *
    have e1 : q * v1 * R ≤ q * V := by rw [hv, Nat.mul_add, Nat.mul_assoc]; omega
    have e2 : q * v1 * R < (u1 * W + u0 + 1) * R := by rw [Nat.add_mul (u1 * W + u0)]; omega
    have := Nat.lt_of_mul_lt_mul_right e2
    omega
theorem guess_highW {W V v1 v' R T u1 u0 u' : Nat} (hv : V = v1 * R + v') (hT : T = (u1 * W + u0) * R + u') (hu' : u' < R) (hu0 : u0 < W) (hTV : T < V * W) (hv1 : W ≤ 2 * v1) (hW : 0 < W) (hR : 0 < R) (hv' : v' < R) :
    (if v1 ≤ u1 then W - 1 else (u1 * W + u0) / v1) ≤ T / V + 2 := by
  have hv0 : 0 < v1 := by omega
  have hV : 0 < V := by rw [hv]; exact Nat.add_pos_left (Nat.mul_pos hv0 hR) _
  generalize hq : (if v1 ≤ u1 then W - 1 else (u1 * W + u0) / v1) = q
  have hqv : q * v1 ≤ u1 * W + u0 := by
    by_cases h : v1 ≤ u1
    · rw [if_pos h] at hq
      have e1 : (W - 1) * v1 ≤ W * v1 := Nat.mul_le_mul_right _ (by omega)
      have e2 : W * v1 ≤ W * u1 := Nat.mul_le_mul_left _ h
      rw [← hq, Nat.mul_comm u1]; omega
    · rw [if_neg h] at hq
      rw [← hq]; exact Nat.div_mul_le_self _ _
  have hqW : q ≤ W := by
    by_cases h : v1 ≤ u1
    · rw [if_pos h] at hq; omega
    · rw [if_neg h] at hq
      have : (u1 * W + u0) / v1 < W := by
        rw [Nat.div_lt_iff_lt_mul hv0]
        have e : (u1 + 1) * W ≤ v1 * W := Nat.mul_le_mul_right _ (by omega)
        rw [Nat.add_mul] at e; rw [Nat.mul_comm W]; omega
      omega
  by_cases h2 : q ≤ 2
  · exact Nat.le_trans h2 (Nat.le_add_left _ _)
  · obtain ⟨p, rfl⟩ : ∃ p, q = p + 2 := ⟨q - 2, by omega⟩
    refine Nat.add_le_add_right ?_ 2
    rw [Nat.le_div_iff_mul_le hV]
    have e1 : (p + 2) * v1 * R ≤ T := by
      have := Nat.mul_le_mul_right R hqv
      rw [hT]; omega
    have e2 : (p + 2) * v' ≤ W * R := Nat.mul_le_mul hqW (Nat.le_of_lt hv')
    have e3 : W * R ≤ 2 * v1 * R := Nat.mul_le_mul_right _ hv1
    have e4 : (p + 2) * V = (p + 2) * v1 * R + (p + 2) * v' := by rw [hv, Nat.mul_add, Nat.mul_assoc]
    have e5 : 2 * V = 2 * v1 * R + 2 * v' := by rw [hv, Nat.mul_add, Nat.mul_assoc]
    have e6 : (p + 2) * V = p * V + 2 * V := by rw [Nat.add_mul]
    omega
theorem nv_zeros {xs : List Nat} {K : Nat} (h : B64 xs) (h0 : ∀ t, K ≤ t → gd xs t = 0) : nv xs < 18446744073709551616 ^ K := by
  rcases Nat.lt_or_ge K xs.length with hk | hk
  · have e := nv_split xs K (by omega)
    have z : nv (xs.drop K) = 0 := by
      have : ∀ ys : List Nat, (∀ t, gd ys t = 0) → nv ys = 0 := by
        intro ys
        induction ys with
        | nil => intro _; rfl
        | cons y ys ih =>
          intro hy
          have h1 := hy 0
          have h2 := ih (fun t => by have := hy (t + 1); simpa [gd] using this)
          simp only [nv, h2]
          simpa [gd] using h1
      exact this _ fun t => by rw [gd_drop]; exact h0 _ (by omega)
    rw [e, z, Nat.mul_zero, Nat.add_zero]
    exact nv_take_lt h K
  · exact Nat.lt_of_lt_of_le (nv_lt h) (Nat.pow_le_pow_right (by omega) hk)
theorem zeros_of_nv {xs : List Nat} {K : Nat} (h : nv xs < 18446744073709551616 ^ K) : ∀ t, K ≤ t → gd xs t = 0 := by
  intro t ht
  rcases Nat.eq_zero_or_pos (gd xs t) with h0 | h0
  · exact h0
  · exfalso
    have hlt : t < xs.length := by
      rcases Nat.lt_or_ge t xs.length with h | h
      · exact h
      · rw [gd_ge h] at h0; omega
    have e := nv_split xs t (by omega)
    have e2 := nv_drop hlt
    have e3 : 18446744073709551616 ^ K ≤ 18446744073709551616 ^ t := Nat.pow_le_pow_right (by omega) ht
    have e4 : 18446744073709551616 ^ t * 1 ≤ 18446744073709551616 ^ t * nv (xs.drop t) := Nat.mul_le_mul_left _ (by omega)
    omega
structure DivSt (X V m k : Nat) (us zs : List Nat) : Prop where
  val : X = nv (zs.drop k) * 18446744073709551616 ^ k * V + nv us
  low : nv us < V * 18446744073709551616 ^ k
theorem div_top {V m k : Nat} {us ys : List Nat} (hV : nv ys = V) (hyl : ys.length = m + 1) (by' : B64 ys) (bu : B64 us) (hul : k + 1 + m < us.length) (hlow : nv us < V * 18446744073709551616 ^ (k + 1)) :
    ∃ T L R u' v', nv us = T * 18446744073709551616 ^ k + L ∧ L < 18446744073709551616 ^ k ∧ R = 18446744073709551616 ^ m ∧ T = (gd us (k + 1 + m) * 18446744073709551616 + gd us (k + m)) * R + u' ∧ u' < R ∧ V = gd ys m * R + v' ∧ v' < R ∧ T < V * 18446744073709551616 := by
  have hVlt : V < 18446744073709551616 ^ (m + 1) := by rw [← hV, ← hyl]; exact nv_lt by'
  have hz : ∀ t, k + 1 + (m + 1) ≤ t → gd us t = 0 := by
    refine zeros_of_nv (Nat.lt_trans hlow ?_)
    rw [Nat.pow_add _ (k + 1), Nat.mul_comm V]
    exact Nat.mul_lt_mul_of_pos_left hVlt (Nat.pow_pos (by omega))
  have s1 := nv_split us k (by omega)
  have s2 := nv_split (us.drop k) m (by rw [List.length_drop]; omega)
  have s3 : nv ((us.drop k).drop m) = gd us (k + m) + 18446744073709551616 * gd us (k + 1 + m) := by
    rw [nv_drop_any, gd_drop, nv_drop_any, gd_drop, List.drop_drop]
    have : nv (us.drop (k + (m + 1 + 1))) = 0 := by
      have : ∀ ys : List Nat, (∀ t, gd ys t = 0) → nv ys = 0 := by
        intro ys
        induction ys with
        | nil => intro _; rfl
        | cons y ys ih =>
          intro hy
          have h1 := hy 0
          have h2 := ih (fun t => by have := hy (t + 1); simpa [gd] using this)
          simp only [nv, h2]
          simpa [gd] using h1
      exact this _ fun t => by rw [gd_drop]; exact hz _ (by omega)
    rw [this, show k + (m + 1) = k + 1 + m by omega]; omega
  have s4 := nv_split ys m (by omega)
  have s5 : nv (ys.drop m) = gd ys m := by
    rw [nv_drop (by omega), List.drop_eq_nil_of_le (by omega)]; simp [nv]
  refine ⟨nv (us.drop k), nv (us.take k), _, nv ((us.drop k).take m), nv (ys.take m), ?_, nv_take_lt bu k, rfl, ?_, nv_take_lt (bu.drop k) m, ?_, nv_take_lt by' m, ?_⟩
  · rw [s1, Nat.mul_comm (18446744073709551616 ^ k)]; omega
  · rw [s2, s3, Nat.mul_comm (18446744073709551616 ^ m), Nat.mul_comm 18446744073709551616, Nat.add_comm (gd us (k + m))]; omega
  · rw [← hV, s4, s5, Nat.mul_comm (18446744073709551616 ^ m)]; omega
  · rw [Nat.pow_succ] at hlow
    have e : 18446744073709551616 ^ k * nv (us.drop k) < 18446744073709551616 ^ k * (V * 18446744073709551616) := by
      rw [show 18446744073709551616 ^ k * (V * 18446744073709551616) = V * (18446744073709551616 ^ k * 18446744073709551616) by rw [Nat.mul_left_comm]]
      omega
    exact Nat.lt_of_mul_lt_mul_left e
theorem div_digit {X V m k d : Nat} {us us' zs : List Nat} (h : DivSt X V m (k + 1) us zs) (hz : k < zs.length) (hd : nv us' + d * V * 18446744073709551616 ^ k = nv us) (hlow : nv us' < V * 18446744073709551616 ^ k) : DivSt X V m k us' (zs.set k d) := by
  refine ⟨?_, hlow⟩
  rw [h.val, nv_drop (xs := zs.set k d) (j := k) (by rw [List.length_set]; exact hz), gd_set_self hz, drop_set_lt (by omega), ← hd, Nat.pow_succ]
  generalize nv (zs.drop (k + 1)) = Z
  generalize 18446744073709551616 ^ k = P
  rw [Nat.add_mul, Nat.add_mul, Nat.mul_right_comm d P V]
  have : Z * (P * 18446744073709551616) * V = 18446744073709551616 * Z * P * V := by
    rw [Nat.mul_comm P, ← Nat.mul_assoc, Nat.mul_comm Z]
  omega
theorem div_round {V T L P q : Nat} {u u1 : Nat} (hV : 0 < V) (hu : u = T * P + L) (hL : L < P) (hq : q = T / V) (hd : u1 + q * V * P = u) : u1 < V * P := by
  have e := Nat.div_add_mod T V
  have hm := Nat.mod_lt T hV
  rw [← hq] at e
  have e2 : T * P = q * V * P + T % V * P := by rw [← Nat.add_mul, Nat.mul_comm q]; congr 1; exact e.symm
  have e3 : (T % V + 1) * P ≤ V * P := Nat.mul_le_mul_right _ hm
  rw [Nat.add_mul] at e3
  omega
theorem digit_le {V T L P g u : Nat} (hV : 0 < V) (hu : u = T * P + L) (hL : L < P) (h : g * V * P ≤ u) : g ≤ T / V := by
  rw [Nat.le_div_iff_mul_le hV]
  have : g * V * P < (T + 1) * P := by rw [Nat.add_mul]; omega
  have := Nat.lt_of_mul_lt_mul_right this
  omega
theorem digit_ge {V T L P g u : Nat} (hu : u = T * P + L) (h : u < g * V * P) : T / V < g := by
  rcases Nat.eq_zero_or_pos V with hV | hV
  · subst hV; simp at h
  · rw [Nat.div_lt_iff_lt_mul hV]
    have : T * P < g * V * P := by omega
    exact Nat.lt_of_mul_lt_mul_right this
theorem norm_top {b k : Nat} (hb : b ≠ 0) (hk : k < 64) (h1 : 2 ^ k ≤ gd (limbs b) (ln b - 1)) (h2 : gd (limbs b) (ln b - 1) < 2 ^ (k + 1)) :
    b * 2 ^ (63 - k) < 18446744073709551616 ^ ln b ∧ ln (b * 2 ^ (63 - k)) = ln b ∧ 9223372036854775808 ≤ gd (limbs (b * 2 ^ (63 - k))) (ln b - 1) := by
  obtain ⟨m, hm⟩ : ∃ m, ln b = m + 1 := ⟨ln b - 1, by have := ln_pos hb; omega⟩
  have hll : (limbs b).length = m + 1 := hm
  rw [hm, Nat.add_sub_cancel] at h1 h2
  rw [hm, Nat.add_sub_cancel]
  have s := nv_split (limbs b) m (by omega)
  rw [nv_limbs, nv_drop (by omega), List.drop_eq_nil_of_le (by omega)] at s
  simp only [nv, Nat.mul_zero, Nat.add_zero] at s
  have hlo := nv_take_lt (limbs_b64 b) m
  generalize gd (limbs b) m = t at *
  generalize nv ((limbs b).take m) = lo at *
  have hP : 0 < 18446744073709551616 ^ m := Nat.pow_pos (by omega)
  generalize hPP : 18446744073709551616 ^ m = P at *
  have e63 : 2 ^ k * 2 ^ (63 - k) = 9223372036854775808 := by rw [← Nat.pow_add, show k + (63 - k) = 63 by omega]
  have e64 : 2 ^ (k + 1) * 2 ^ (63 - k) = 18446744073709551616 := by rw [← Nat.pow_add, show k + 1 + (63 - k) = 64 by omega]
  generalize 2 ^ (63 - k) = S at *
  have hb1 : b < 2 ^ (k + 1) * P := by
    have : (t + 1) * P ≤ 2 ^ (k + 1) * P := Nat.mul_le_mul_right _ h2
    rw [Nat.add_mul, Nat.mul_comm t] at this; omega
  have hS : 0 < S := by rcases Nat.eq_zero_or_pos S with h | h; subst h; simp at e63; exact h
  have c1 : b * S < 18446744073709551616 * P := by
    have := Nat.mul_lt_mul_of_pos_right hb1 hS
    rw [Nat.mul_right_comm, e64] at this; exact this
  have c1' : b * S < 18446744073709551616 ^ (m + 1) := by rw [Nat.pow_succ, hPP, Nat.mul_comm P]; exact c1
  have c2 : 9223372036854775808 * P ≤ b * S := by
    have h3 : 2 ^ k * P ≤ b := by
      have := Nat.mul_le_mul_right P h1
      rw [s, Nat.mul_comm P]; omega
    have := Nat.mul_le_mul_right S h3
    rw [Nat.mul_right_comm, e63] at this; exact this
  have c3 : ln (b * S) = m + 1 := by
    refine Nat.le_antisymm (ln_le.2 c1') ?_
    rcases Nat.lt_or_ge m (ln (b * S)) with h | h
    · exact h
    · have := ln_le.1 h; rw [hPP] at this; omega
  refine ⟨c1', c3, ?_⟩
  have hl2 : (limbs (b * S)).length = m + 1 := c3
  have s' := nv_split (limbs (b * S)) m (by omega)
  rw [nv_limbs, nv_drop (by omega), List.drop_eq_nil_of_le (by omega)] at s'
  simp only [nv, Nat.mul_zero, Nat.add_zero] at s'
  have hlo' := nv_take_lt (limbs_b64 (b * S)) m
  rw [hPP] at s' hlo'
  generalize gd (limbs (b * S)) m = t' at *
  generalize nv ((limbs (b * S)).take m) = lo' at *
  rcases Nat.lt_or_ge t' 9223372036854775808 with h | h
  · exfalso
    have : (t' + 1) * P ≤ 9223372036854775808 * P := Nat.mul_le_mul_right _ h
    rw [Nat.add_mul, Nat.mul_comm t'] at this
    omega
  · exact h
theorem div_done {a b s : Nat} {us zs : List Nat} {m : Nat} (hb : 0 < b) (h : DivSt (a * 2 ^ s) (b * 2 ^ s) m 0 us zs) : nv zs = a / b ∧ nv us / 2 ^ s = a % b := by
  have hv := h.val
  have hl := h.low
  simp only [List.drop_zero, Nat.pow_zero, Nat.mul_one] at hv hl
  have hp : 0 < 2 ^ s := Nat.pow_pos (by omega)
  have hp2 : 0 < b * 2 ^ s := Nat.mul_pos hb hp
  have q : a * 2 ^ s / (b * 2 ^ s) = nv zs := by
    rw [hv, Nat.add_comm, Nat.add_mul_div_right _ _ hp2, Nat.div_eq_of_lt hl, Nat.zero_add]
  have r : a * 2 ^ s % (b * 2 ^ s) = nv us := by
    rw [hv, Nat.add_comm, Nat.add_mul_mod_self_right, Nat.mod_eq_of_lt hl]
  rw [Nat.mul_div_mul_right _ _ hp] at q
  rw [Nat.mul_mod_mul_right] at r
  exact ⟨q.symm, by rw [← r, Nat.mul_div_cancel _ hp]⟩
end Go.Proofs.YtdmglajfmfjmlaaGreat
namespace Go
def Exit.hops (P : Program) (c : Code) (Q : Exit → Act → World → Prop) : Nat → Exit → Act → World → Prop
  | 0, .goto _, _, _ => False
  | n + 1, .goto l, a, w => ∃ rest, findLabel c l = some rest ∧ rest.wp P (Exit.hops P c Q n) a w
  | _, e, a, w => Q e a w
theorem Exit.hops_normal {P : Program} {c : Code} {Q : Exit → Act → World → Prop} {n : Nat} {a : Act} {w : World} (h : Q .normal a w) : Exit.hops P c Q n .normal a w := by
  cases n <;> exact h
theorem wp_scope_hops {P : Program} {a : Act} {w : World} {Q : Exit → Act → World → Prop} {c : Code} (n : Nat) (first : c.wp P (Exit.hops P c Q n) a w) : (Code.scope c).wp P Q a w := by
  intro b k cs
  have key : ∀ n code a w, Code.wp P code (Exit.hops P c Q n) a w → ∃ e a' w', Q e a' w' ∧ Arrives P (lone (b.at a (.code code :: .inScope c :: k)) cs w) b k cs e a' w' := by
    intro n
    induction n with
    | zero =>
      intro code a w h
      obtain ⟨e, a₁, w₁, hq, harr⟩ := h b (.inScope c :: k) cs
      cases e with
      | normal => exact ⟨.normal, a₁, w₁, hq, Steps.trans harr (.one step_inScope)⟩
      | exit id => exact ⟨.exit id, a₁, w₁, hq, fun k' hk => harr k' (by simp [exitTo, hk])⟩
      | goto l' => exact hq.elim
      | ret => exact ⟨_, a₁, w₁, hq, harr⟩
      | panic ch => exact ⟨_, a₁, w₁, hq, harr⟩
      | outgrown => exact ⟨_, a₁, w₁, hq, harr⟩
    | succ n ih =>
      intro code a w h
      obtain ⟨e, a₁, w₁, hq, harr⟩ := h b (.inScope c :: k) cs
      cases e with
      | normal => exact ⟨.normal, a₁, w₁, hq, Steps.trans harr (.one step_inScope)⟩
      | exit id => exact ⟨.exit id, a₁, w₁, hq, fun k' hk => harr k' (by simp [exitTo, hk])⟩
      | goto l' =>
        obtain ⟨rest, hf, hr⟩ := hq
        obtain ⟨e₂, a₂, w₂, hq₂, harr₂⟩ := ih rest a₁ w₁ hr
        have hg : gotoIn l' (.inScope c :: k) = some (.code rest :: .inScope c :: k) := by simp [gotoIn, hf]
        exact ⟨e₂, a₂, w₂, hq₂, .of_steps (harr _ hg) harr₂⟩
      | ret => exact ⟨_, a₁, w₁, hq, harr⟩
      | panic ch => exact ⟨_, a₁, w₁, hq, harr⟩
      | outgrown => exact ⟨_, a₁, w₁, hq, harr⟩
  obtain ⟨e, a₁, w₁, hq, harr⟩ := key n c a w first
  refine ⟨e, a₁, w₁, hq, ?_⟩
  exact .of_steps (.one step_scope) harr
end Go
namespace Go.Proofs.YtdmglajfmfjmlaaGreat
set_option linter.unusedSimpArgs false
set_option linter.unusedVariables false
set_option maxRecDepth 100000
open Go.RowKit
theorem Own.take {k : IntKind} {e : TypeId} {w : World} {base g n c m : Nat} {xs : List Nat} (h : Own k e w base (some ⟨g, 0, none⟩) n c xs) (hm : m ≤ n) : Own k e w base (some ⟨g, 0, none⟩) m c (xs.take m) := by
  have hl := h.len
  rcases h.2 with ⟨h1, _⟩ | ⟨g', cap, cur, h1, hb, hh, hnc, hmx, hs, ht⟩
  · simp at h1
  · simp only [Value.slice.injEq, Option.some.injEq, Addr.mk.injEq, and_true, true_and] at h1
    obtain ⟨rfl, rfl⟩ := h1
    refine ⟨by rw [vs_length, List.length_take]; omega, .inr ⟨g, c, cur, rfl, hb, hh, by omega, hmx, hs, ?_⟩⟩
    have e2 := congrArg (List.take m) ht
    rw [Nat.mul_one] at *
    rw [List.take_take, Nat.min_eq_left hm] at e2
    rw [e2]; simp [vs, List.map_take]
def RetNNE (m m' : Nat) (er : Int) (w : World) (e : Ending) (w' : World) : Prop := ∃ A c A' c', e = .returned (.tuple #[.slice A (ln m) c, .slice A' (ln m') c', .int .i64 er]) ∧ Own .u64 23 w' w.heap.size A (ln m) c (limbs m) ∧ Own .u64 23 w' w.heap.size A' (ln m') c' (limbs m') ∧ Below w.heap.size w w' ∧ Apart A A'
set_option maxHeartbeats 400000 in
theorem div_zero_any (w : World) {A B : Option Addr} {n c m d x : Nat} (hx : NA w A n c x) (hy : NA w B m d 0) (hn : n ≤ 262144) (hm : m ≤ 262144) :
    Calls Tryz.prog 110 #[.slice A n c, .slice B m d] w (RetNNE 0 0 11 w) := by
  have HX := Lib.hid hx
  have HY := Lib.hid hy
  clear hx hy
  go_enter Tryz.func110, Tryz.ntmps110
  go_wp2_with fail
  refine (trim_any w HX.out (by omega)).mono ?_
  rintro e w1 ⟨A1, c1, rfl, ho1, hb1⟩
  go_wp2_with fail
  refine (trim_any w1 (HY.out.below hb1) (by omega)).mono ?_
  rintro e w2 ⟨A2, c2, rfl, ho2, hb2⟩
  have HB := Lib.hid (hb1.trans (hb2.mono hb1.size))
  have E := Lib.hid ln_zero
  have E2 := Lib.hid limbs_zero
  rw [ln_zero]
  clear ho1 hb1 ho2 hb2
  go_wp2_with fail
  refine bodyPost_ret (v := .tuple #[.slice none 0 0, .slice none 0 0, .int .i64 11]) (by simp [results, Tryz.results110, go_sem]) rfl ⟨none, 0, none, 0, ?_, ?_, ?_, HB.out, Apart.none _⟩
  · rw [E.out]
  · rw [E.out, E2.out]; exact Own.nil _ _ _ _
  · rw [E.out, E2.out]; exact Own.nil _ _ _ _
set_option maxHeartbeats 400000 in
theorem div_less_any (w : World) {A B : Option Addr} {n c m d x y : Nat} (hx : NA w A n c x) (hy : NA w B m d y) (hn : n ≤ 262144) (hm : m ≤ 262144) (hxy : x < y) :
    Calls Tryz.prog 110 #[.slice A n c, .slice B m d] w (RetNNE 0 x 0 w) := by
  have HX := Lib.hid hx
  have HY := Lib.hid hy
  have hd : decide (cmpN x y < 0) = true := by rw [cmpN_lt hxy]; rfl
  obtain ⟨ly, hly⟩ : ∃ ly, ln y = ly := ⟨_, rfl⟩
  obtain ⟨lx, hlx⟩ : ∃ lx, ln x = lx := ⟨_, rfl⟩
  have hy0 : ((ly : Int) == 0) = false := by have := ln_pos (show y ≠ 0 by omega); simp; omega
  have hlxm : lx ≤ 1048576 := by
    obtain ⟨xs, h1, h2, h3⟩ := hx
    have := ln_nv h2; have := h1.len; rw [h3] at *; omega
  have hlym : ly ≤ 1048576 := by
    obtain ⟨xs, h1, h2, h3⟩ := hy
    have := ln_nv h2; have := h1.len; rw [h3] at *; omega
  have HLX := Lib.hid hlx
  have HLY := Lib.hid hly
  clear hx hy hlx hly hxy
  go_enter Tryz.func110, Tryz.ntmps110
  go_wp2_with fail
  refine (trim_any w HX.out (by omega)).mono ?_
  rintro e w1 ⟨A1, c1, rfl, ho1, hb1⟩
  rw [HLX.out] at ho1 ⊢
  go_wp2_with fail
  refine (trim_any w1 (HY.out.below hb1) (by omega)).mono ?_
  rintro e w2 ⟨A2, c2, rfl, ho2, hb2⟩
  rw [HLY.out] at ho2 ⊢
  have HB := Lib.hid (hb1.trans (hb2.mono hb1.size))
  have HO1 := Lib.hid (ho1.below hb2)
  have HO2 := Lib.hid ho2
  have HN1 := Lib.hid ((ho1.below hb2).na : NA w2 A1 lx c1 x)
  have HN2 := Lib.hid (ho2.na : NA w2 A2 ly c2 y)
  clear ho1 hb1 ho2 hb2
  go_wp2_with fail
  refine (cmp_any w2 HN1.out HN2.out (by omega) (by omega)).mono ?_
  rintro e w' ⟨rfl, rfl⟩
  go_wp2_with fail
  refine bodyPost_ret (v := .tuple #[.slice none 0 0, .slice A1 lx c1, .int .i64 0]) (by simp [results, Tryz.results110, go_sem]) rfl ⟨none, 0, A1, c1, ?_, ?_, ?_, HB.out, Apart.none _⟩
  · rw [ln_zero, HLX.out]
  · rw [ln_zero, limbs_zero]; exact Own.nil _ _ _ _
  · rw [HLX.out]; exact HO1.out
set_option maxHeartbeats 400000 in
theorem div_small_any (w : World) {A B : Option Addr} {n c m d x y : Nat} (hx : NA w A n c x) (hy : NA w B m d y) (hn : n ≤ 262144) (hm : m ≤ 262144) (hxy : y ≤ x) (hy0 : 0 < y) (hy1 : ln y = 1) :
    Calls Tryz.prog 110 #[.slice A n c, .slice B m d] w (RetNNE (x / y) (x % y) 0 w) := by
  have HX := Lib.hid hx
  have HY := Lib.hid hy
  have hd : decide (cmpN x y < 0) = false := by
    by_cases e : x = y
    · rw [cmpN_eq e]; rfl
    · rw [cmpN_gt (by omega)]; rfl
  obtain ⟨lx, hlx⟩ : ∃ lx, ln x = lx := ⟨_, rfl⟩
  have hlxm : lx ≤ 1048576 := by
    obtain ⟨xs, h1, h2, h3⟩ := hx
    have := ln_nv h2; have := h1.len; rw [h3] at *; omega
  have hyb : y < 18446744073709551616 := by have := lt_ln y; rw [hy1] at this; simpa using this
  have hlimb : gd (limbs y) 0 = y := by
    rw [limbs_pos (by omega)]; simp only [gd, List.getElem?_cons_zero, Option.getD_some]; omega
  have HLX := Lib.hid hlx
  have HY1 := Lib.hid hy1
  have HLI := Lib.hid hlimb
  clear hx hy hlx hxy hy1 hlimb
  go_enter Tryz.func110, Tryz.ntmps110
  go_wp2_with fail
  refine (trim_any w HX.out (by omega)).mono ?_
  rintro e w1 ⟨A1, c1, rfl, ho1, hb1⟩
  rw [HLX.out] at ho1 ⊢
  go_wp2_with fail
  refine (trim_any w1 (HY.out.below hb1) (by omega)).mono ?_
  rintro e w2 ⟨A2, c2, rfl, ho2, hb2⟩
  rw [HY1.out] at ho2 ⊢
  obtain ⟨ad, rfl, _, hcc⟩ := ho2.rd.form (by omega)
  have hcell := hcc 0 (by omega)
  rw [HLI.out] at hcell
  have hcell0 : w2.cell? ad = some (.int .u64 (y : Int)) := by simpa [Addr.add] using hcell
  have HB := Lib.hid (hb1.trans (hb2.mono hb1.size))
  have HN1 := Lib.hid ((ho1.below hb2).na : NA w2 A1 lx c1 x)
  have HN2 := Lib.hid (ho2.na : NA w2 (some ad) 1 c2 y)
  have hcap := ho2.rd.cap
  clear ho1 hb1 ho2 hb2 hcc
  go_wp2_with fail
  refine (cmp_any w2 HN1.out HN2.out (by omega) (by omega)).mono ?_
  rintro e w' ⟨rfl, rfl⟩
  go_wp2_with fail
  refine (small_any _ y HN1.out (by omega) hy0 hyb).mono ?_
  rintro e w3 ⟨A3, c3, A4, c4, rfl, ho3, ho4, hb3, hap⟩
  go_wp2_with fail
  refine bodyPost_ret (v := .tuple #[.slice A3 (ln (x / y)) c3, .slice A4 (ln (x % y)) c4, .int .i64 0]) (by simp [results, Tryz.results110, go_sem]) rfl ⟨A3, c3, A4, c4, rfl, ?_, ?_, ?_, hap⟩
  · exact ho3.lower HB.out.size
  · exact ho4.lower HB.out.size
  · exact HB.out.trans (hb3.mono HB.out.size)
end Go.Proofs.YtdmglajfmfjmlaaGreat
namespace Go.Proofs.YtdmglajfmfjmlaaGreat
set_option linter.unusedSimpArgs false
set_option linter.unusedVariables false
set_option maxRecDepth 100000
open Go.RowKit
theorem guessN_lt {u1 u0 top : Nat} (h0 : u0 < 18446744073709551616) (ht : 0 < top) : guessN u1 u0 top < 18446744073709551616 := by
  unfold guessN
  split
  · omega
  · rw [Nat.div_lt_iff_lt_mul ht]
    have e : (u1 + 1) * 18446744073709551616 ≤ top * 18446744073709551616 := Nat.mul_le_mul_right _ (by omega)
    rw [Nat.add_mul] at e; rw [Nat.mul_comm 18446744073709551616]; omega
theorem round_take {V m k : Nat} {us ys us1 : List Nat} {r : Bool} (hV : nv ys = V) (hyl : ys.length = m + 1) (by' : B64 ys) (bu : B64 us) (b1 : B64 us1) (hul : k + 1 + m < us.length) (hlow : nv us < V * 18446744073709551616 ^ (k + 1)) (htop : 9223372036854775808 ≤ gd ys m)
    (h : nv us1 + guessN (gd us (k + (m + 1))) (gd us (k + (m + 1) - 1)) (gd ys m) * nv ys * 18446744073709551616 ^ k = nv us + 18446744073709551616 ^ (k + (m + 1) + 1) * (if r then 1 else 0)) (hab : Above (k + (m + 1)) us us1) :
    (r = false → nv us1 + guessN (gd us (k + (m + 1))) (gd us (k + (m + 1) - 1)) (gd ys m) * V * 18446744073709551616 ^ k = nv us ∧ nv us1 < V * 18446744073709551616 ^ k) ∧
    (r = true → ∃ g, guessN (gd us (k + (m + 1))) (gd us (k + (m + 1) - 1)) (gd ys m) = g + 1 ∧
      ∀ (us2 : List Nat) (r2 : Bool), B64 us2 → nv us2 + 18446744073709551616 ^ (k + (m + 1) + 1) * (if r2 then 1 else 0) = nv us1 + nv ys * 18446744073709551616 ^ k → Above (k + (m + 1)) us1 us2 →
        (r2 = true → nv us2 + g * V * 18446744073709551616 ^ k = nv us ∧ nv us2 < V * 18446744073709551616 ^ k) ∧
        (r2 = false → ∃ g', g = g' + 1 ∧ ∀ (us3 : List Nat) (r3 : Bool), B64 us3 → nv us3 + 18446744073709551616 ^ (k + (m + 1) + 1) * (if r3 then 1 else 0) = nv us2 + nv ys * 18446744073709551616 ^ k → Above (k + (m + 1)) us2 us3 →
          r3 = true ∧ nv us3 + g' * V * 18446744073709551616 ^ k = nv us ∧ nv us3 < V * 18446744073709551616 ^ k)) := by
  obtain ⟨T, L, R, u', v', e1, hL, hR, hT, hu', hv, hv', hTV⟩ := div_top hV hyl by' bu hul hlow
  have hVlt : V < 18446744073709551616 ^ (m + 1) := by rw [← hV, ← hyl]; exact nv_lt by'
  have hz : ∀ t, k + 1 + (m + 1) ≤ t → gd us t = 0 := by
    refine zeros_of_nv (Nat.lt_trans hlow ?_)
    rw [Nat.pow_add _ (k + 1), Nat.mul_comm V]
    exact Nat.mul_lt_mul_of_pos_left hVlt (Nat.pow_pos (by omega))
  have hRp : 0 < R := by rw [hR]; exact Nat.pow_pos (by omega)
  have hu0 : gd us (k + m) < 18446744073709551616 := bu.gd _
  have hVp : 0 < V := by rw [hv]; exact Nat.add_pos_left (Nat.mul_pos (by omega) hRp) _
  have g1 := guess_lowW hv hT hu' hu0 hTV (by omega) (by omega) hRp hv'
  have g2 := guess_highW hv hT hu' hu0 hTV (by omega) (by omega) hRp hv'
  rw [show k + 1 + m = k + (m + 1) by omega] at g1 g2
  rw [show k + (m + 1) - 1 = k + m by omega] at *
  have eg : (if gd ys m ≤ gd us (k + (m + 1)) then 18446744073709551616 - 1 else (gd us (k + (m + 1)) * 18446744073709551616 + gd us (k + m)) / gd ys m) = guessN (gd us (k + (m + 1))) (gd us (k + m)) (gd ys m) := rfl
  rw [eg] at g1 g2
  generalize guessN (gd us (k + (m + 1))) (gd us (k + m)) (gd ys m) = G at *
  rw [hV] at h
  have hb1 : nv us1 < 18446744073709551616 ^ (k + (m + 1) + 1) := nv_zeros b1 fun t ht => by rw [hab t (by omega)]; exact hz t (by omega)
  have hP : 0 < 18446744073709551616 ^ k := Nat.pow_pos (by omega)
  rw [hV]
  generalize hM : 18446744073709551616 ^ (k + (m + 1) + 1) = M at *
  generalize 18446744073709551616 ^ k = P at *
  obtain ⟨Q, hQ⟩ : ∃ Q, T / V = Q := ⟨_, rfl⟩
  rw [hQ] at g1 g2
  refine ⟨fun hr => ?_, fun hr => ?_⟩
  · subst hr
    simp only [Bool.false_eq_true, if_false, Nat.mul_zero, Nat.add_zero] at h
    have q1 := digit_le (g := G) hVp e1 hL (by omega)
    rw [hQ] at q1
    exact ⟨h, div_round hVp e1 hL (q := G) (by rw [hQ]; omega) h⟩
  · subst hr
    rw [if_pos rfl, Nat.mul_one] at h
    have q1 := digit_ge (V := V) (g := G) e1 (by omega)
    rw [hQ] at q1
    obtain ⟨g, rfl⟩ : ∃ g, G = g + 1 := ⟨G - 1, by omega⟩
    refine ⟨g, rfl, fun us2 r2 b2 h2 hab2 => ?_⟩
    rw [Nat.add_mul, Nat.one_mul, Nat.add_mul] at h
    have hb2 : nv us2 < M := by
      have := nv_zeros b2 (K := k + (m + 1) + 1) fun t ht => by rw [hab2 t (by omega), hab t (by omega)]; exact hz t (by omega)
      rw [hM] at this; exact this
    refine ⟨fun hr => ?_, fun hr => ?_⟩
    · subst hr
      rw [if_pos rfl, Nat.mul_one] at h2
      have e2 : nv us2 + g * V * P = nv us := by omega
      have q2 := digit_le (g := g) hVp e1 hL (by omega)
      rw [hQ] at q2
      exact ⟨e2, div_round hVp e1 hL (q := g) (by rw [hQ]; omega) e2⟩
    · subst hr
      simp only [Bool.false_eq_true, if_false, Nat.mul_zero, Nat.add_zero] at h2
      have q2 := digit_ge (V := V) (g := g) e1 (by omega)
      rw [hQ] at q2
      obtain ⟨g', rfl⟩ : ∃ g', g = g' + 1 := ⟨g - 1, by omega⟩
      refine ⟨g', rfl, fun us3 r3 b3 h3 hab3 => ?_⟩
      rw [Nat.add_mul, Nat.one_mul, Nat.add_mul] at h
      have q3 : g' = T / V := by rw [hQ]; omega
      have hle : g' * V * P ≤ nv us := by
        have := Nat.div_mul_le_self T V
        rw [← q3] at this
        have := Nat.mul_le_mul_right P this
        omega
      have hb3 : nv us3 < M := by
        have := nv_zeros b3 (K := k + (m + 1) + 1) fun t ht => by rw [hab3 t (by omega), hab2 t (by omega), hab t (by omega)]; exact hz t (by omega)
        rw [hM] at this; exact this
      cases r3 with
      | true =>
        rw [if_pos rfl, Nat.mul_one] at h3
        have e3 : nv us3 + g' * V * P = nv us := by omega
        exact ⟨rfl, e3, div_round hVp e1 hL q3 e3⟩
      | false =>
        simp only [Bool.false_eq_true, if_false, Nat.mul_zero, Nat.add_zero] at h3
        exfalso; omega
end Go.Proofs.YtdmglajfmfjmlaaGreat
namespace Go.Proofs.YtdmglajfmfjmlaaGreat
set_option linter.unusedSimpArgs false
set_option linter.unusedVariables false
set_option maxRecDepth 100000
open Go.RowKit
theorem Own.blk {k : IntKind} {e : TypeId} {w : World} {base n c : Nat} {A : Option Addr} {xs : List Nat} (h : Own k e w base A n c xs) (hn : 0 < n) : ∃ g, A = some ⟨g, 0, none⟩ ∧ base ≤ g ∧ g < w.heap.size := by
  rcases h.ways with ⟨_, h0, _⟩ | ⟨g, rfl, h1, h2, _⟩
  · omega
  · exact ⟨g, rfl, h1, h2⟩
theorem Own.grown {k : IntKind} {e : TypeId} {w w' : World} {base n c : Nat} {A : Option Addr} {xs : List Nat} {g : Nat} (h : Own k e w base A n c xs) (hg : w.grownBy w' (some g)) (hne : A ≠ some ⟨g, 0, none⟩) : Own k e w' base A n c xs := by
  refine ⟨h.1, ?_⟩
  rcases h.2 with h2 | ⟨g', cap, cur, h1, hg', hh, r⟩
  · exact .inl h2
  · refine .inr ⟨g', cap, cur, h1, hg', (hg.block g' (Array.getElem?_eq_some_iff.1 hh).1 ?_).trans hh, r⟩
    intro e
    simp only [Option.some.injEq] at e
    simp only [Value.slice.injEq] at h1
    exact hne (by rw [h1.1, e])
theorem Bk.grown {w w' : World} {g g' : Nat} {t : TypeId} {cs : Array Value} (h : Bk w g t cs) (hg : w.grownBy w' (some g')) (hne : g ≠ g') : Bk w' g t cs := (hg.block g h.lt (by simpa using hne)).trans h
theorem Bk.drewN {w : World} {g : Nat} {t : TypeId} {cs : Array Value} (h : Bk w g t cs) (n : Nat) : Bk (w.drewN n) g t cs := h
structure DivW (w0 wr : World) (G g g6 lx lq m c5 ly d3 : Nat) (B3 : Option Addr) (ys us zs : List Nat) : Prop where
  own : Own .u64 23 wr G (some ⟨g, 0, none⟩) (lx + 1) c5 us
  bu : B64 us
  bk : Bk wr g6 23 (va .u64 zs)
  zl : zs.length = lq
  bz : B64 zs
  rd : Rd .u64 wr B3 ly d3 ys
  bel : Below w0.heap.size w0 wr
theorem DivW.grown {w0 wr w1 : World} {G g g6 lx lq m c5 ly d3 : Nat} {B3 : Option Addr} {ys us zs us' : List Nat} (h : DivW w0 wr G g g6 lx lq m c5 ly d3 B3 ys us zs) (ho : Own .u64 23 w1 G (some ⟨g, 0, none⟩) (lx + 1) c5 us') (bu : B64 us') (hg : wr.grownBy w1 (some g)) (h6 : g6 ≠ g) (h3 : ∀ ad, B3 = some ad → ad.block ≠ g) (hG : w0.heap.size ≤ g) : DivW w0 w1 G g g6 lx lq m c5 ly d3 B3 ys us' zs :=
  ⟨ho, bu, h.bk.grown hg h6, h.zl, h.bz, h.rd.grown hg h3, h.bel.grown hg h.bel.size (fun k hk => by have := Option.some.inj hk; omega)⟩
theorem DivW.drewN {w0 wr : World} {G g g6 lx lq m c5 ly d3 : Nat} {B3 : Option Addr} {ys us zs : List Nat} (h : DivW w0 wr G g g6 lx lq m c5 ly d3 B3 ys us zs) (n : Nat) : DivW w0 (wr.drewN n) G g g6 lx lq m c5 ly d3 B3 ys us zs :=
  ⟨h.own.drewN n, h.bu, h.bk.drewN n, h.zl, h.bz, h.rd.drewN n, below_drewN h.bel n⟩
theorem DivW.store {w0 wr : World} {G g g6 lx lq m c5 ly d3 : Nat} {B3 : Option Addr} {ys us zs : List Nat} (h : DivW w0 wr G g g6 lx lq m c5 ly d3 B3 ys us zs) (j y : Nat) (hy : y < 18446744073709551616) (h6 : g6 ≠ g) (h3 : ∀ ad, B3 = some ad → ad.block ≠ g6) (hG : w0.heap.size ≤ g6) : DivW w0 (wr.setCell ⟨g6, j, none⟩ (.int .u64 (y : Int))) G g g6 lx lq m c5 ly d3 B3 ys us (zs.set j y) :=
  ⟨h.own.grown (grown_set (grown_refl _ _) _ _) (by intro e; simp at e <;> omega), h.bu, by rw [← va_set]; exact h.bk.set j _, by rw [List.length_set]; exact h.zl, h.bz.set hy, h.rd.grown (grown_set (grown_refl _ _) _ _) h3, h.bel.setCell (p := ⟨g6, j, none⟩) hG _⟩
theorem down_all (w : World) {A : Option Addr} {n c x : Nat} (s : Nat) (hx : NA w A n c x) (hn : n ≤ 524288) (hs : s ≤ 65536) :
    Calls Tryz.prog 164 #[.slice A n c, .int .i64 (-(s : Int))] w (RetN (x / 2 ^ s) w) := by
  rcases Nat.eq_zero_or_pos s with h | h
  · subst h
    simpa using up_any w 0 hx hn (by omega)
  · exact down_any w s hx hn hs h
set_option maxHeartbeats 4000000 in
set_option maxRecDepth 100000 in
theorem div_big_any (w : World) {A B : Option Addr} {n c m d x y : Nat} (hx : NA w A n c x) (hy : NA w B m d y) (hn : n ≤ 262144) (hm : m ≤ 262144) (hxy : y ≤ x) (hy1 : 2 ≤ ln y) :
    Calls Tryz.prog 110 #[.slice A n c, .slice B m d] w (RetNNE (x / y) (x % y) 0 w) := by
  obtain ⟨i0, hi0, hz0, hz1, hz2⟩ := info_parts u64_info
  have hd : decide (cmpN x y < 0) = false := by
    by_cases e : x = y
    · rw [cmpN_eq e]; rfl
    · rw [cmpN_gt (by omega)]; rfl
  have hy0 : y ≠ 0 := by intro e; rw [e, ln_zero] at hy1; omega
  have hlxy : ln y ≤ ln x := ln_mono hxy
  have hlxm : ln x ≤ 262144 := by
    obtain ⟨xs, h1, h2, h3⟩ := hx
    have := ln_nv h2; have := h1.len; rw [h3] at *; omega
  have htop0 : gd (limbs y) (ln y - 1) ≠ 0 := by
    have hl : ln y - 1 < (limbs y).length := by unfold ln at *; omega
    have := limbs_last y (gd (limbs y) (ln y - 1)) (by rw [List.getLast?_eq_getElem?]; exact gd_get hl)
    exact this
  obtain ⟨k, hk, hk64, hk1, hk2⟩ := bitLen_spec (gd (limbs y) (ln y - 1)) htop0 ((limbs_b64 y).gd _)
  obtain ⟨hVlt, hVln, hVtop⟩ := norm_top hy0 hk64 hk1 hk2
  obtain ⟨s, hs⟩ : ∃ s : Nat, 63 - k = s := ⟨_, rfl⟩
  rw [hs] at hVlt hVln hVtop
  have hsI : (64 - (Lib.bitLen (gd (limbs y) (ln y - 1)) : Int)) = (s : Int) := by rw [hk]; omega
  have hs63 : s ≤ 63 := by omega
  have htop64 := (limbs_b64 y).gd (ln y - 1)
  obtain ⟨top0, htop⟩ : ∃ t, gd (limbs y) (ln y - 1) = t := ⟨_, rfl⟩
  have hXln : ln (x * 2 ^ s) ≤ ln x + 1 := by
    rw [ln_le, Nat.pow_succ]
    have h2 : 2 ^ s ≤ 2 ^ 63 := Nat.pow_le_pow_right (by omega) hs63
    exact Nat.lt_of_le_of_lt (Nat.mul_le_mul_left _ h2) (Nat.mul_lt_mul'' (lt_ln x) (by omega))
  have hdst : DivSt (x * 2 ^ s) (y * 2 ^ s) (ln y) (ln x - ln y + 1) ((limbs (x * 2 ^ s) ++ [0, 0]).take (ln x + 1)) (List.replicate (ln x - ln y + 1) 0) := by
    have e0 : nv ((limbs (x * 2 ^ s) ++ [0, 0]).take (ln x + 1)) = x * 2 ^ s := by
      have e : nv (limbs (x * 2 ^ s) ++ [0, 0]) = x * 2 ^ s := by rw [nv_append, nv_limbs]; simp [nv]
      have hl : ln x + 1 ≤ (limbs (x * 2 ^ s) ++ [0, 0]).length := by
        have h3 : ln x ≤ ln (x * 2 ^ s) := ln_mono (Nat.le_mul_of_pos_right _ (Nat.pow_pos (by omega)))
        simp only [List.length_append, List.length_cons, List.length_nil]; unfold ln at *; omega
      have sp := nv_split (limbs (x * 2 ^ s) ++ [0, 0]) (ln x + 1) hl
      have hb : x * 2 ^ s < 18446744073709551616 ^ (ln x + 1) := ln_le.1 hXln
      rw [e] at sp
      rcases Nat.eq_zero_or_pos (nv ((limbs (x * 2 ^ s) ++ [0, 0]).drop (ln x + 1))) with h | h
      · rw [h] at sp; omega
      · have := Nat.mul_le_mul_left (18446744073709551616 ^ (ln x + 1)) h; omega
    refine ⟨?_, ?_⟩
    · rw [e0, List.drop_eq_nil_of_le (by simp)]; simp [nv]
    · rw [e0]
      have e1 : x * 2 ^ s < 18446744073709551616 ^ ln x * 2 ^ s := Nat.mul_lt_mul_of_pos_right (lt_ln x) (Nat.pow_pos (by omega))
      have e2 : 18446744073709551616 ^ (ln y - 1) ≤ y := by
        rcases Nat.lt_or_ge y (18446744073709551616 ^ (ln y - 1)) with h | h
        · have := ln_le.2 h; omega
        · exact h
      have e3 : 18446744073709551616 ^ ln x = 18446744073709551616 ^ (ln y - 1) * 18446744073709551616 ^ (ln x - ln y + 1) := by rw [← Nat.pow_add]; congr 1; omega
      have e4 : 18446744073709551616 ^ (ln y - 1) * 18446744073709551616 ^ (ln x - ln y + 1) * 2 ^ s ≤ y * 2 ^ s * 18446744073709551616 ^ (ln x - ln y + 1) := by
        rw [Nat.mul_right_comm]
        exact Nat.mul_le_mul_right _ (Nat.mul_le_mul_right _ e2)
      rw [e3] at e1
      exact Nat.lt_of_lt_of_le e1 e4
  have hbu0 : B64 ((limbs (x * 2 ^ s) ++ [0, 0]).take (ln x + 1)) := ((limbs_b64 _).append (B64.cons (by omega) (B64.cons (by omega) B64.nil))).take _
  obtain ⟨lx, hlx⟩ : ∃ lx, ln x = lx := ⟨_, rfl⟩
  obtain ⟨lY, hly⟩ : ∃ ly, ln y = ly := ⟨_, rfl⟩
  obtain ⟨lX, hlX⟩ : ∃ l, ln (x * 2 ^ s) = l := ⟨_, rfl⟩
  have hlX1 : lx ≤ lX := by rw [← hlx, ← hlX]; exact ln_mono (Nat.le_mul_of_pos_right _ (Nat.pow_pos (by omega)))
  obtain ⟨l1, rfl⟩ : ∃ l1, lY = l1 + 1 := ⟨lY - 1, by omega⟩
  rw [hly, Nat.add_sub_cancel] at htop hVtop
  rw [hlx, hly] at hdst hlxy
  rw [hlx] at hbu0 hlxm hXln
  rw [hlX] at hXln
  rw [hly] at hVln hy1
  rw [show ln y - 1 = l1 by omega, htop] at hsI htop64
  obtain ⟨lq, hlq⟩ : ∃ lq, lx - (l1 + 1) + 1 = lq := ⟨_, rfl⟩
  rw [hlq] at hdst
  have HX := Lib.hid hx
  have HY := Lib.hid hy
  have HLX := Lib.hid hlx
  have HLY := Lib.hid hly
  have HLXX := Lib.hid hlX
  have HLV := Lib.hid hVln
  have HTOP := Lib.hid htop
  have HVT := Lib.hid hVtop
  have HST := Lib.hid hdst
  have HBU := Lib.hid hbu0
  have HLZ := fun w => YtdmglajfmfjmlaaGreat.bits_LeadingZeros64 (top0 : Int) w (by omega) (by omega)
  have e63 : (top0 : Int).toNat = top0 := by omega
  rw [e63, hsI] at HLZ
  have HLZ' := Lib.hid HLZ
  have hly0 : ((((l1 + 1 : Nat) : Int)) == 0) = false := by simp; omega
  have hly2 : (((l1 + 1 : Nat) : Int) == 1) = false := by simp; omega
  have HY0 := Lib.hid hy0
  have i1 : IntKind.i64.wrap (((l1 + 1 : Nat) : Int) - 1) = (l1 : Int) := by rw [IntWalk.i64_in _ (by omega)]; omega
  have i2 : IntKind.i64.wrap ((lx : Int) + 1) = (lx : Int) + 1 := IntWalk.i64_in _ (by omega)
  have i3 : IntKind.i64.wrap ((lx : Int) - ((l1 + 1 : Nat) : Int)) = (lx : Int) - ((l1 + 1 : Nat) : Int) := IntWalk.i64_in _ (by omega)
  have i4 : IntKind.i64.wrap ((lx : Int) - ((l1 + 1 : Nat) : Int) + 1) = (lq : Int) := by rw [IntWalk.i64_in _ (by omega)]; omega
  have i3' : IntKind.i64.wrap ((lx : Int) - ((l1 : Int) + 1)) = (lx : Int) - ((l1 : Int) + 1) := IntWalk.i64_in _ (by omega)
  have i4' : IntKind.i64.wrap ((lx : Int) - ((l1 : Int) + 1) + 1) = (lq : Int) := by rw [IntWalk.i64_in _ (by omega)]; omega
  have i4'' : (lx : Int) - ((l1 : Int) + 1) + 1 = (lq : Int) := by omega
  have hlqb : lq ≤ 262145 := by omega
  have hlql : lq + l1 = lx := by omega
  have hmk := fun w => run_mk lq (by omega) w
  clear hx hy hlx hly hlX hVln htop hVtop hdst hbu0 HLZ hxy hy0 hk hk1 hk2 hk64 hs hsI hVlt hlq e63 htop0
  go_enter Tryz.func110, Tryz.ntmps110
  go_wp2_with fail
  refine (trim_any w HX.out (by omega)).mono ?_
  rintro e w1 ⟨A1, c1, rfl, ho1, hb1⟩
  rw [HLX.out] at ho1 ⊢
  go_wp2_with fail
  refine (trim_any w1 (HY.out.below hb1) (by omega)).mono ?_
  rintro e w2 ⟨A2, c2, rfl, ho2, hb2⟩
  rw [HLY.out] at ho2 ⊢
  obtain ⟨g2, rfl, hg21, hg22⟩ := ho2.blk (by omega)
  have hcell := ho2.cellAt (j := l1) (by omega)
  rw [HTOP.out] at hcell
  have HB := Lib.hid (hb1.trans (hb2.mono hb1.size))
  have HN1 := Lib.hid ((ho1.below hb2).na : NA w2 A1 lx c1 x)
  have HN2 := Lib.hid (ho2.na : NA w2 (some ⟨g2, 0, none⟩) (l1 + 1) c2 y)
  have hcap2 := ho2.rd.cap
  have hW2 := HB.out.size
  clear ho1 hb1 ho2 hb2
  go_wp2_with fail
  refine (cmp_any w2 HN1.out HN2.out (by omega) (by omega)).mono ?_
  rintro e w' ⟨rfl, rfl⟩
  go_wp2_with fail
  refine (HLZ'.out w2).mono ?_
  rintro e w' ⟨rfl, hw'⟩
  obtain rfl : w2 = w' := hw'.symm
  go_wp2_with fail
  refine (up_any w2 s HN2.out (by omega) (by omega)).mono ?_
  rintro e w3 ⟨A3, d3, rfl, ho3, hb3⟩
  rw [HLV.out] at ho3 ⊢
  obtain ⟨g3, rfl, hg31, hg32⟩ := ho3.blk (by omega)
  have HB3 := Lib.hid (HB.out.trans (hb3.mono HB.out.size))
  have HN1' := Lib.hid (HN1.out.below hb3)
  have hW3 := hb3.size
  have HO3 := Lib.hid ho3
  clear ho3 hb3
  go_wp2_with fail
  refine (up_any w3 s HN1'.out (by omega) (by omega)).mono ?_
  rintro e w4 ⟨A4, c4, rfl, ho4, hb4⟩
  rw [HLXX.out] at ho4 ⊢
  have hW4 := hb4.size
  have HB4 := Lib.hid (HB3.out.trans (hb4.mono (Nat.le_trans hW2 hW3)))
  have HO4 := Lib.hid (ho4.below ((Below.refl _ _).alloc (Nat.le_refl _) (.cells #[.int .u64 0, .int .u64 0] 23)))
  have HR4 := Lib.hid ((Own.of_bk (k := .u64) (xs := [0, 0]) (base := 0) (Bk.new w4 23 (va .u64 [0, 0])) (by omega) rfl (by simp)).rd : Rd .u64 (w4.alloc (.cells #[.int .u64 0, .int .u64 0] 23)) (some ⟨w4.heap.size, 0, none⟩) 2 2 [0, 0])
  have hb9 : w3.heap.size ≤ (w4.alloc (.cells #[.int .u64 0, .int .u64 0] 23)).heap.size := by simp; omega
  have HB5 := Lib.hid (show Below w3.heap.size w3 (w4.alloc (.cells #[.int .u64 0, .int .u64 0] 23)) from hb4.alloc hW4 _)
  clear ho4 hb4
  go_wp2_with (at_builtin; refine wpList_append_rd _ rfl (.tmp 55) (.tmp 56) _ rfl .u64 w3.heap.size 23 i0 (.int .u64 0) 8 Tryz.underlying22 hi0 hz0 hz1 hz2 rfl A4 lX c4 _ rfl HO4.out _ _ _ _ rfl HR4.out (by simp only [maxLen]; omega) (by omega) hb9 ?_)
  intro A5 c5 w5 ho5 hb5 hs5 _
  obtain ⟨g5, rfl, hg51, hg52⟩ := ho5.blk (by omega)
  have hcap5 := ho5.rd.cap
  have hb6 : Below w3.heap.size w3 w5 := HB5.out.trans hb5
  have hs6 := hb6.size
  have HB6 := Lib.hid (HB3.out.trans (hb6.mono (Nat.le_trans hW2 hW3)))
  have HO5 := Lib.hid (ho5.take (m := lx + 1) (by omega))
  have HO3' := Lib.hid (HO3.out.below hb6)
  have hcb : (lx : Int) + 1 ≤ (c5 : Int) := by omega
  have hcb2 : ((lx : Int) + 1).toNat = lx + 1 := by omega
  have hcb0 : (0 : Int) ≤ (lx : Int) + 1 := by omega
  clear ho5 hb5 hb6
  go_wp2_with fail
  have h65 : w5.heap.size ≠ g5 := by omega
  have h35 : ∀ ad : Addr, some (⟨g3, 0, none⟩ : Addr) = some ad → ad.block ≠ g5 := by intro ad e; have := Option.some.inj e; subst this; simp; omega
  have h36 : ∀ ad : Addr, some (⟨g3, 0, none⟩ : Addr) = some ad → ad.block ≠ w5.heap.size := by intro ad e; have := Option.some.inj e; subst this; simp; omega
  have H35 := Lib.hid h35
  have H36 := Lib.hid h36
  clear h35 h36
  go_loopw [13] (fun i wr => ∃ (k : Nat) (us zs : List Nat), k ≤ lq ∧ i = .int .i64 ((k : Int) - 1) ∧ DivW w wr w3.heap.size g5 w5.heap.size lx lq 0 c5 (l1 + 1) d3 (some ⟨g3, 0, none⟩) (limbs (y * 2 ^ s)) us zs ∧ DivSt (x * 2 ^ s) (y * 2 ^ s) (l1 + 1) k us zs) (fun i _ => (intOf i + 1).toNat)
  case atStart => exact ⟨lq, _, _, Nat.le_refl _, rfl, ⟨HO5.out.below ((Below.refl _ _).alloc (Nat.le_refl _) _), HBU.out, Bk.new _ _ _, by simp, B64.replicate _, HO3'.out.rd.alloc _, HB6.out.alloc (by omega) _⟩, HST.out⟩
  case round =>
    obtain ⟨k, us, zs, hk, rfl, hdw, hds⟩ := hrel
    by_cases hk0 : k = 0
    · subst hk0
      have HF := Lib.hid (div_done (Nat.pos_of_ne_zero HY0.out) hds)
      have HN1 := Lib.hid (show NA wr (some ⟨w5.heap.size, 0, none⟩) lq lq (nv zs) from ⟨zs, (Own.of_bk (base := 0) hdw.bk (by omega) hdw.zl (by omega)).rd, hdw.bz, rfl⟩)
      have HN2 := Lib.hid (show NA wr (some ⟨g5, 0, none⟩) (lx + 1) c5 (nv us) from ⟨us, hdw.own.rd, hdw.bu, rfl⟩)
      have HBL := Lib.hid hdw.bel
      have hwr := hdw.bel.size
      clear hdw hds
      go_wp2_with fail
      refine (trim_any wr HN1.out (by omega)).mono ?_
      rintro e w7 ⟨A7, c7, rfl, ho7, hb7⟩
      go_wp2_with fail
      refine (down_all w7 s (HN2.out.below hb7) (by omega) (by omega)).mono ?_
      rintro e w8 ⟨A8, c8, rfl, ho8, hb8⟩
      go_wp2_with fail
      refine bodyPost_ret (v := .tuple #[.slice A7 (ln (nv zs)) c7, .slice A8 (ln (nv us / 2 ^ s)) c8, .int .i64 0]) (by simp [results, Tryz.results110, go_sem]) rfl ⟨A7, c7, A8, c8, ?_, ?_, ?_, ?_, Apart.of ho7 ho8⟩
      · rw [HF.out.1, HF.out.2]
      · rw [← HF.out.1]; exact (ho7.below hb8).lower hwr
      · rw [← HF.out.2]; exact ho8.lower (Nat.le_trans hwr hb7.size)
      · exact HBL.out.trans ((hb7.trans (hb8.mono hb7.size)).mono hwr)
    · obtain ⟨j, rfl⟩ : ∃ j, k = j + 1 := ⟨k - 1, by omega⟩
      have ek : ((j + 1 : Nat) : Int) - 1 = (j : Int) := by omega
      rw [ek]
      have HDW := Lib.hid hdw
      have HDS := Lib.hid hds
      have hvc := (hdw.rd.form (by omega))
      obtain ⟨ad3, had3, _, hvc⟩ := hvc
      have hvc1 := hvc l1 (by omega)
      obtain rfl := Option.some.inj had3
      rw [ad_plain] at hvc1
      obtain ⟨topv, htopv⟩ : ∃ t, gd (limbs (y * 2 ^ s)) l1 = t := ⟨_, rfl⟩
      rw [htopv] at hvc1
      have HTV := Lib.hid htopv
      have htv64 : topv < 18446744073709551616 := by rw [← htopv]; exact (limbs_b64 _).gd _
      have htvp : 0 < topv := by have := HVT.out; rw [htopv] at this; omega
      have HGU := Lib.hid (guess_any wr hdw.own.rd hdw.bu (j + (l1 + 1)) topv (by omega) (by omega) htv64)
      obtain ⟨G, hG⟩ : ∃ G, guessN (gd us (j + (l1 + 1))) (gd us (j + (l1 + 1) - 1)) topv = G := ⟨_, rfl⟩
      have hG64 : G < 18446744073709551616 := by rw [← hG]; exact guessN_lt (hdw.bu.gd _) htvp
      rw [hG] at HGU
      have hgu := HGU.out
      rw [show ((j + (l1 + 1) : Nat) : Int) = (j : Int) + ((l1 : Int) + 1) by omega] at hgu
      have HGU' := Lib.hid hgu
      clear hgu
      have HG := Lib.hid hG
      have j1 : IntKind.i64.wrap ((j : Int) + ((l1 : Int) + 1)) = (j : Int) + ((l1 : Int) + 1) := IntWalk.i64_in _ (by omega)
      have j3 : IntKind.i64.wrap ((l1 : Int) + 1 - 1) = (l1 : Int) := by rw [IntWalk.i64_in _ (by omega)]; omega
      have j4 : (l1 : Int) < (l1 : Int) + 1 := by omega
      have j5 : (0 : Int) ≤ (l1 : Int) := by omega
      clear hdw hds had3 hvc htopv hG ek hk0
      go_wp2_with fail
      refine wp_scope_hops 1 ?_
      go_wp2_with fail
      refine (HGU'.out).mono ?_
      rintro e w' ⟨rfl, q0, rfl⟩
      have HT := take_any (wr.drewN q0) (HDW.out.drewN q0).own HDW.out.bu (HDW.out.drewN q0).rd (limbs_b64 _) H35.out j G (by omega) (by omega) hG64
      have HT' := Lib.hid HT
      clear j1 j3 j4 j5 HT
      go_wp2_with fail
      refine HT'.out.mono ?_
      rintro e wt ⟨r, us1, rfl, ho1, bu1, hg1, hP1, ha1⟩
      have ho1' := ho1
      have hdw1 := (HDW.out.drewN q0).grown ho1 bu1 hg1 h65 H35.out (by omega)
      rw [← HG.out, ← HTV.out] at hP1
      obtain ⟨RF, RT⟩ := round_take (V := y * 2 ^ s) (m := l1) (nv_limbs _) HLV.out (limbs_b64 _) HDW.out.bu bu1 (by rw [HDW.out.own.len]; omega) HDS.out.low HVT.out hP1 ha1
      rw [HTV.out, HG.out] at RF RT
      have HRF := Lib.hid RF
      have HRT := Lib.hid RT
      clear RF RT hP1 ha1 hg1 ho1 ho1'
      cases r with
      | false =>
        obtain ⟨heq, hlo⟩ := HRF.out rfl
        have HEQ := Lib.hid heq
        have HLO := Lib.hid hlo
        have HG64 : G < 18446744073709551616 := hG64
        clear heq hlo
        go_wp2_with fail
        go_step3
        refine ⟨_, rfl, ?_⟩
        have hdwf := hdw1
        have hcell := (hdwf.bk.cell j).trans (va_at .u64 (by rw [hdwf.zl]; omega))
        have hfr := hdwf.bk.frozen j
        have HW := Lib.hid (hdwf.store j G (by assumption) h65 H36.out (by have := HB6.out.size; omega))
        have HS := Lib.hid (div_digit HDS.out (by rw [hdwf.zl]; omega) HEQ.out HLO.out)
        clear hdwf
        go_wp2_with fail
        refine Exit.hops_normal ?_
        go_wp2_with fail
        refine ⟨⟨j, us1, zs.set j G, by omega, rfl, HW.out, HS.out⟩, by simp [intOf]⟩
      | true =>
        obtain ⟨g, hg, hgive⟩ := HRT.out rfl
        have HGI := Lib.hid hgive
        have hwrap : IntKind.u64.wrap ((G : Int) - 1) = (g : Int) := wrap_of (by omega)
        have hg64 : g < 18446744073709551616 := by omega
        have HT2 := Lib.hid (give_any wt hdw1.own hdw1.bu hdw1.rd (limbs_b64 _) H35.out j (by omega) (by omega))
        have HDW1 := Lib.hid hdw1
        clear hgive hg hdw1
        go_wp2_with fail
        go_step3
        go_wp2_with fail
        refine HT2.out.mono ?_
        rintro e wu ⟨r2, us2, rfl, ho2, bu2, hg2', hP2, ha2⟩
        have hdw2 := HDW1.out.grown ho2 bu2 hg2' h65 H35.out (by omega)
        have HR2 := Lib.hid (HGI.out us2 r2 bu2 hP2 ha2)
        clear hP2 ha2 hg2' ho2 hwrap
        cases r2 with
        | true =>
          obtain ⟨heq, hlo⟩ := HR2.out.1 rfl
          have HEQ := Lib.hid heq
          have HLO := Lib.hid hlo
          clear heq hlo
          have hdwf := hdw2
          go_wp2_with fail
          go_step3
          have hcell := (hdwf.bk.cell j).trans (va_at .u64 (by rw [hdwf.zl]; omega))
          have hfr := hdwf.bk.frozen j
          have HW := Lib.hid (hdwf.store j g (by assumption) h65 H36.out (by have := HB6.out.size; omega))
          have HS := Lib.hid (div_digit HDS.out (by rw [hdwf.zl]; omega) HEQ.out HLO.out)
          clear hdwf
          go_wp2_with fail
          refine Exit.hops_normal ?_
          go_wp2_with fail
          refine ⟨⟨j, us2, zs.set j g, by omega, rfl, HW.out, HS.out⟩, by simp [intOf]⟩
        | false =>
          obtain ⟨g', hgg, hgive⟩ := HR2.out.2 rfl
          have HGI2 := Lib.hid hgive
          have hwrap : IntKind.u64.wrap ((g : Int) - 1) = (g' : Int) := wrap_of (by omega)
          have hg64' : g' < 18446744073709551616 := by omega
          have HT3 := Lib.hid (give_any wu hdw2.own hdw2.bu hdw2.rd (limbs_b64 _) H35.out j (by omega) (by omega))
          have HDW2 := Lib.hid hdw2
          clear hgive hgg hdw2
          go_wp2_with fail
          go_step3
          refine ⟨_, rfl, ?_⟩
          go_wp2_with fail
          refine HT3.out.mono ?_
          rintro e wv ⟨r3, us3, rfl, ho3, bu3, hg3', hP3, ha3⟩
          have hdw3 := HDW2.out.grown ho3 bu3 hg3' h65 H35.out (by omega)
          obtain ⟨hr3, heq, hlo⟩ := HGI2.out us3 r3 bu3 hP3 ha3
          subst hr3
          have HEQ := Lib.hid heq
          have HLO := Lib.hid hlo
          clear hP3 ha3 hg3' ho3 hwrap heq hlo
          have hdwf := hdw3
          go_wp2_with fail
          go_step3
          have hcell := (hdwf.bk.cell j).trans (va_at .u64 (by rw [hdwf.zl]; omega))
          have hfr := hdwf.bk.frozen j
          have HW := Lib.hid (hdwf.store j g' (by assumption) h65 H36.out (by have := HB6.out.size; omega))
          have HS := Lib.hid (div_digit HDS.out (by rw [hdwf.zl]; omega) HEQ.out HLO.out)
          clear hdwf
          go_wp2_with fail
          refine Exit.hops_normal ?_
          go_wp2_with fail
          refine ⟨⟨j, us3, zs.set j g', by omega, rfl, HW.out, HS.out⟩, by simp [intOf]⟩
end Go.Proofs.YtdmglajfmfjmlaaGreat
namespace Go.Proofs.YtdmglajfmfjmlaaGreat
set_option linter.unusedSimpArgs false
set_option linter.unusedVariables false
set_option maxRecDepth 100000
open Go.RowKit
theorem div_any (w : World) {A B : Option Addr} {n c m d x y : Nat} (hx : NA w A n c x) (hy : NA w B m d y) (hn : n ≤ 262144) (hm : m ≤ 262144) :
    Calls Tryz.prog 110 #[.slice A n c, .slice B m d] w (RetNNE (if y = 0 then 0 else x / y) (if y = 0 then 0 else x % y) (if y = 0 then 11 else 0) w) := by
  by_cases h0 : y = 0
  · subst h0; rw [if_pos rfl, if_pos rfl, if_pos rfl]; exact div_zero_any w hx hy hn hm
  · rw [if_neg h0, if_neg h0, if_neg h0]
    rcases Nat.lt_or_ge x y with h | h
    · rw [Nat.div_eq_of_lt h, Nat.mod_eq_of_lt h]; exact div_less_any w hx hy hn hm h
    · by_cases h1 : ln y = 1
      · exact div_small_any w hx hy hn hm h (Nat.pos_of_ne_zero h0) h1
      · have := ln_pos h0
        exact div_big_any w hx hy hn hm h (by omega)
def shiftN (x : Nat) (n : Int) : Nat := if 0 ≤ n then x * 2 ^ (min n 65536).toNat else x / 2 ^ (min (-n) 65536).toNat
theorem shift_any (w : World) {A : Option Addr} {n c x : Nat} (t : Int) (hx : NA w A n c x) (hn : n ≤ 524288) :
    Calls Tryz.prog 164 #[.slice A n c, .int .i64 t] w (RetN (shiftN x t) w) := by
  unfold shiftN
  split
  · exact up_gen w _ t hx hn (by omega) (by omega)
  · exact down_gen w _ t hx hn (by omega) (by omega) (by omega) (by omega)
end Go.Proofs.YtdmglajfmfjmlaaGreat
namespace Go.Proofs.YtdmglajfmfjmlaaGreat
set_option linter.unusedSimpArgs false
set_option linter.unusedVariables false
set_option maxRecDepth 100000
def toN (l : List Int) : List Nat := l.map Int.toNat
def nI (l : List Int) : Nat := nv (toN l)
def ofN (n : Nat) : List Int := (limbs n).map fun (x : Nat) => (x : Int)
def okN (m : Nat) (l : List Int) : Prop := l.length ≤ m ∧ ∀ x ∈ l, 0 ≤ x ∧ x < 18446744073709551616
instance (m : Nat) (l : List Int) : Decidable (okN m l) := by unfold okN; exact inferInstance
theorem toN_length (l : List Int) : (toN l).length = l.length := by simp [toN]
theorem okN.b64 {m : Nat} {l : List Int} (h : okN m l) : B64 (toN l) := by
  intro x hx
  simp only [toN, List.mem_map] at hx
  obtain ⟨y, hy, rfl⟩ := hx
  have := h.2 y hy
  omega
theorem okN.le {m m' : Nat} {l : List Int} (h : okN m l) (hm : m ≤ m') : okN m' l := ⟨Nat.le_trans h.1 hm, h.2⟩
theorem toN_ofN (n : Nat) : toN (ofN n) = limbs n := by simp [toN, ofN, Function.comp_def]
theorem nI_ofN (n : Nat) : nI (ofN n) = n := by unfold nI; rw [toN_ofN, nv_limbs]
theorem ofN_length (n : Nat) : (ofN n).length = ln n := by simp [ofN, ln]
theorem okN_ofN {m n : Nat} (h : ln n ≤ m) : okN m (ofN n) := by
  refine ⟨by rw [ofN_length]; exact h, fun x hx => ?_⟩
  simp only [ofN, List.mem_map] at hx
  obtain ⟨y, hy, rfl⟩ := hx
  have := limbs_b64 n y hy
  omega
theorem ln_nI {m : Nat} {l : List Int} (h : okN m l) : ln (nI l) ≤ m := Nat.le_trans (ln_nv h.b64) (by rw [toN_length]; exact h.1)
theorem ofN_zero : ofN 0 = [] := by unfold ofN; rw [limbs_zero]; rfl
end Go.Proofs.YtdmglajfmfjmlaaGreat
namespace Go.Proofs.YtdmglajfmfjmlaaGreat
set_option linter.unusedSimpArgs false
set_option linter.unusedVariables false
set_option maxRecDepth 100000
open Go.RowKit Go.Proofs.YtdmglajfmfjmlaaGreatW.PrintWords Go.Proofs.YtdmglajfmfjmlaaGreatW.PrintLast
theorem rd_of_C {w : World} {A : Option Addr} {c m : Nat} {l : List Int} (h : Kd.C (Kd.int .u64) w A l.length l) (hc : l.length ≤ c) (ho : okN m l) : Rd .u64 w A l.length c (toN l) := by
  obtain ⟨_, h2, h3⟩ := Kd.reads_of_C (d := (0 : Int)) h
  refine ⟨toN_length l, hc, h2, fun hn => ?_⟩
  obtain ⟨ad, e, hcell⟩ := h3 hn
  refine ⟨ad, e, ?_, fun j x hx => ?_⟩
  · have := World.block_lt_of_cell? w _ (hcell 0 hn)
    rwa [Go.ChangeShapes.block_add] at this
  · have hj : j < l.length := by
      rcases Nat.lt_or_ge j (toN l).length with h | h
      · rwa [toN_length] at h
      · rw [List.getElem?_eq_none h] at hx; cases hx
    rw [hcell j hj]
    have hl : l[j]? = some (l.getD j 0) := by rw [List.getD_eq_getElem?_getD, List.getElem?_eq_getElem hj]; rfl
    have hb := ho.2 (l.getD j 0) (List.mem_of_getElem? hl)
    simp only [toN, List.getElem?_map, hl, Option.map_some, Option.some.injEq] at hx
    congr 2
    omega
theorem na_of_C {w : World} {A : Option Addr} {c m : Nat} {l : List Int} (h : Kd.C (Kd.int .u64) w A l.length l) (hc : l.length ≤ c) (ho : okN m l) : NA w A l.length c (nI l) := ⟨toN l, rd_of_C h hc ho, ho.b64, rfl⟩
theorem R_of_Own {k : IntKind} {e : TypeId} {w : World} {base n c : Nat} {A : Option Addr} {xs : List Nat} {ok : Nat → Prop} (h : Own k e w base A n c xs) (hok : ∀ g, A = some ⟨g, 0, none⟩ → ok g) : Kd.R (Kd.int k) e w base ok (.slice A n c) (xs.map fun (x : Nat) => (x : Int)) := by
  have hl := h.len
  refine Kd.R_of_own (enc := Value.int k) ?_ ?_
  · have e : encs (Value.int k) (xs.map fun (x : Nat) => (x : Int)) = vs k xs := by simp [encs, vs]
    rw [e, List.length_map, hl]
    exact h
  · intro g hg
    rcases h.ways with ⟨rfl, _⟩ | ⟨g', rfl, _⟩
    · simp [Value.ownBlock] at hg
    · simp only [Value.ownBlock, Option.some.injEq] at hg
      exact hok g (by rw [hg])
theorem retN_R {m : Nat} {w w' : World} {e : Ending} (h : RetN m w e w') : ∃ v0_ : Value, e = .returned (v0_) ∧ Kd.R (Kd.int .u64) 23 w' w.heap.size (fun _ => True) v0_ (ofN m) ∧ Below w.heap.size w w' := by
  obtain ⟨A, c, rfl, ho, hb⟩ := h
  exact ⟨_, rfl, R_of_Own ho (fun _ _ => trivial), hb⟩
theorem of_ite {α : Type} {c : Prop} [Decidable c] {a r : α} (h : (if c then some a else none) = some r) : c ∧ a = r := by
  split at h
  · exact ⟨‹_›, Option.some.inj h⟩
  · cases h
section
variable {A0 A1 : Option Addr} {c0 c1 : Nat} {l0 l1 : List Int} {w : World}
theorem trim_giv {r : List Int} (hr0 : Kd.C (Kd.int .u64) w A0 l0.length l0) (hc0 : l0.length ≤ c0) (h : (if okN 262144 l0 then some (ofN (nI l0)) else none) = some r) :
    Calls Tryz.prog 126 #[.slice A0 l0.length c0] w fun e w' => ∃ v0_ : Value, e = .returned (v0_) ∧ Kd.R (Kd.int .u64) 23 w' w.heap.size (fun _ => True) v0_ r ∧ Below w.heap.size w w' := by
  obtain ⟨h0, rfl⟩ := of_ite h
  have := h0.1
  exact (trim_any w (na_of_C hr0 hc0 h0) (by omega)).mono fun _ _ h => retN_R h
theorem of_giv {a0 : Int} {r : List Int} (h : (if 0 ≤ a0 ∧ a0 < 18446744073709551616 then some (ofN a0.toNat) else none) = some r) :
    Calls Tryz.prog 57 #[.int .u64 a0] w fun e w' => ∃ v0_ : Value, e = .returned (v0_) ∧ Kd.R (Kd.int .u64) 23 w' w.heap.size (fun _ => True) v0_ r ∧ Below w.heap.size w w' := by
  obtain ⟨h0, rfl⟩ := of_ite h
  have := of_any w a0.toNat (by omega)
  rw [Int.toNat_of_nonneg h0.1] at this
  exact this.mono fun _ _ h => retN_R h
theorem cmp_giv {r : Int} (hr0 : Kd.C (Kd.int .u64) w A0 l0.length l0) (hc0 : l0.length ≤ c0) (hr1 : Kd.C (Kd.int .u64) w A1 l1.length l1) (hc1 : l1.length ≤ c1) (h : (if okN 262144 l0 ∧ okN 262144 l1 then some (cmpN (nI l0) (nI l1)) else none) = some r) :
    Calls Tryz.prog 58 #[.slice A0 l0.length c0, .slice A1 l1.length c1] w fun e w' => e = .returned (.int .i64 r) ∧ Drawn0 w w' := by
  obtain ⟨⟨h0, h1⟩, rfl⟩ := of_ite h
  have := h0.1; have := h1.1
  refine (cmp_any w (na_of_C hr0 hc0 h0) (na_of_C hr1 hc1 h1) (by omega) (by omega)).mono ?_
  rintro e w' ⟨rfl, rfl⟩
  exact ⟨rfl, Drawn0.refl _⟩
theorem add_giv {r : List Int} (hr0 : Kd.C (Kd.int .u64) w A0 l0.length l0) (hc0 : l0.length ≤ c0) (hr1 : Kd.C (Kd.int .u64) w A1 l1.length l1) (hc1 : l1.length ≤ c1) (h : (if okN 262144 l0 ∧ okN 262144 l1 then some (ofN (nI l0 + nI l1)) else none) = some r) :
    Calls Tryz.prog 99 #[.slice A0 l0.length c0, .slice A1 l1.length c1] w fun e w' => ∃ v0_ : Value, e = .returned (v0_) ∧ Kd.R (Kd.int .u64) 23 w' w.heap.size (fun _ => True) v0_ r ∧ Below w.heap.size w w' := by
  obtain ⟨⟨h0, h1⟩, rfl⟩ := of_ite h
  have := h0.1; have := h1.1
  exact (add_any w (na_of_C hr0 hc0 h0) (na_of_C hr1 hc1 h1) (by omega) (by omega)).mono fun _ _ h => retN_R h
theorem mul_giv {r : List Int} (hr0 : Kd.C (Kd.int .u64) w A0 l0.length l0) (hc0 : l0.length ≤ c0) (hr1 : Kd.C (Kd.int .u64) w A1 l1.length l1) (hc1 : l1.length ≤ c1) (h : (if okN 262144 l0 ∧ okN 262144 l1 then some (ofN (nI l0 * nI l1)) else none) = some r) :
    Calls Tryz.prog 61 #[.slice A0 l0.length c0, .slice A1 l1.length c1] w fun e w' => ∃ v0_ : Value, e = .returned (v0_) ∧ Kd.R (Kd.int .u64) 23 w' w.heap.size (fun _ => True) v0_ r ∧ Below w.heap.size w w' := by
  obtain ⟨⟨h0, h1⟩, rfl⟩ := of_ite h
  have := h0.1; have := h1.1
  exact (mul_any w (na_of_C hr0 hc0 h0) (na_of_C hr1 hc1 h1) (by omega) (by omega)).mono fun _ _ h => retN_R h
theorem shift_giv {a1 : Int} {r : List Int} (hr0 : Kd.C (Kd.int .u64) w A0 l0.length l0) (hc0 : l0.length ≤ c0) (h : (if okN 262144 l0 then some (ofN (shiftN (nI l0) a1)) else none) = some r) :
    Calls Tryz.prog 164 #[.slice A0 l0.length c0, .int .i64 a1] w fun e w' => ∃ v0_ : Value, e = .returned (v0_) ∧ Kd.R (Kd.int .u64) 23 w' w.heap.size (fun _ => True) v0_ r ∧ Below w.heap.size w w' := by
  obtain ⟨h0, rfl⟩ := of_ite h
  have := h0.1
  exact (shift_any w a1 (na_of_C hr0 hc0 h0) (by omega)).mono fun _ _ h => retN_R h
theorem sub_giv {r1 : List Int} {r2 : Int} (hr0 : Kd.C (Kd.int .u64) w A0 l0.length l0) (hc0 : l0.length ≤ c0) (hr1 : Kd.C (Kd.int .u64) w A1 l1.length l1) (hc1 : l1.length ≤ c1) (h : (if okN 262144 l0 ∧ okN 262144 l1 then some (ofN (nI l0 - nI l1), (if nI l0 < nI l1 then 10 else 0 : Int)) else none) = some (r1, r2)) :
    Calls Tryz.prog 94 #[.slice A0 l0.length c0, .slice A1 l1.length c1] w fun e w' => ∃ v0_ : Value, e = .returned (.tuple #[v0_, .int .i64 r2]) ∧ Kd.R (Kd.int .u64) 23 w' w.heap.size (fun _ => True) v0_ r1 ∧ Below w.heap.size w w' := by
  obtain ⟨⟨h0, h1⟩, h⟩ := of_ite h
  simp only [Prod.mk.injEq] at h
  obtain ⟨rfl, rfl⟩ := h
  have := h0.1; have := h1.1
  refine (sub_any w (na_of_C hr0 hc0 h0) (na_of_C hr1 hc1 h1) (by omega) (by omega)).mono ?_
  rintro e w' ⟨A, c, rfl, ho, hb⟩
  exact ⟨_, rfl, R_of_Own ho (fun _ _ => trivial), hb⟩
def divR (x y : Nat) : List Int × List Int × Int := (ofN (if y = 0 then 0 else x / y), ofN (if y = 0 then 0 else x % y), if y = 0 then 11 else 0)
theorem div_giv {r1 r2 : List Int} {r3 : Int} (hr0 : Kd.C (Kd.int .u64) w A0 l0.length l0) (hc0 : l0.length ≤ c0) (hr1 : Kd.C (Kd.int .u64) w A1 l1.length l1) (hc1 : l1.length ≤ c1) (h : (if okN 262144 l0 ∧ okN 262144 l1 then some (divR (nI l0) (nI l1)) else none) = some (r1, r2, r3)) :
    Calls Tryz.prog 110 #[.slice A0 l0.length c0, .slice A1 l1.length c1] w fun e w' => ∃ v0_ v1_ : Value, e = .returned (.tuple #[v0_, v1_, .int .i64 r3]) ∧ Kd.R (Kd.int .u64) 23 w' w.heap.size (fun k_ => some k_ ≠ (v1_ : Value).ownBlock) v0_ r1 ∧ Kd.R (Kd.int .u64) 23 w' w.heap.size (fun k_ => some k_ ≠ (v0_ : Value).ownBlock) v1_ r2 ∧ Below w.heap.size w w' := by
  obtain ⟨⟨h0, h1⟩, h⟩ := of_ite h
  simp only [divR, Prod.mk.injEq] at h
  obtain ⟨rfl, rfl, rfl⟩ := h
  have := h0.1; have := h1.1
  refine (div_any w (na_of_C hr0 hc0 h0) (na_of_C hr1 hc1 h1) (by omega) (by omega)).mono ?_
  rintro e w' ⟨A, c, A', c', h1, ho, ho', hb, hap⟩
  refine ⟨.slice A _ c, .slice A' _ c', ?_, R_of_Own ho ?_, R_of_Own ho' ?_, hb⟩
  · rw [h1]
  · rintro g rfl e
    rcases A' with _ | a'
    · simp [Value.ownBlock] at e
    · rcases ho'.ways with ⟨h, _⟩ | ⟨g', h, _⟩
      · cases h
      · rw [h] at e; simp only [Value.ownBlock, Option.some.injEq] at e
        exact hap g rfl (by rw [h, e])
  · rintro g rfl e
    rcases ho.ways with ⟨h, _⟩ | ⟨g', h, _⟩
    · rw [h] at e; simp [Value.ownBlock] at e
    · rw [h] at e; simp only [Value.ownBlock, Option.some.injEq] at e
      exact hap g (by rw [h, e]) rfl
end
end Go.Proofs.YtdmglajfmfjmlaaGreat
namespace Go.Proofs.YtdmglajfmfjmlaaGreat
set_option linter.unusedSimpArgs false
set_option linter.unusedVariables false
set_option maxRecDepth 100000
open Go.RowKit
def bvN : List Nat → Nat
  | [] => 0
  | x :: xs => x + 2 * bvN xs
def Bin (xs : List Nat) : Prop := ∀ x ∈ xs, x ≤ 1
theorem Bin.take {xs : List Nat} (h : Bin xs) (k : Nat) : Bin (xs.take k) := fun x hx => h x (List.mem_of_mem_take hx)
theorem Bin.drop {xs : List Nat} (h : Bin xs) (k : Nat) : Bin (xs.drop k) := fun x hx => h x (List.mem_of_mem_drop hx)
theorem Bin.gd {xs : List Nat} (h : Bin xs) (j : Nat) : gd xs j ≤ 1 := by
  rcases Nat.lt_or_ge j xs.length with hj | hj
  · exact h _ (List.mem_of_getElem? (gd_get hj))
  · rw [gd_ge hj]; omega
theorem Bin.tail {x : Nat} {xs : List Nat} (h : Bin (x :: xs)) : Bin xs := fun y hy => h y (by simp [hy])
theorem bvN_append (xs ys : List Nat) : bvN (xs ++ ys) = bvN xs + 2 ^ xs.length * bvN ys := by
  induction xs with
  | nil => simp [bvN]
  | cons x xs ih => simp only [List.cons_append, bvN, ih, List.length_cons, Nat.pow_succ]; rw [Nat.mul_add, Nat.mul_comm (2 ^ xs.length) 2, Nat.mul_assoc]; omega
theorem bvN_lt {xs : List Nat} (h : Bin xs) : bvN xs < 2 ^ xs.length := by
  induction xs with
  | nil => simp [bvN]
  | cons x xs ih =>
    have := ih h.tail
    have hx := h x (by simp)
    simp only [bvN, List.length_cons, Nat.pow_succ]
    omega
theorem bvN_take_succ {xs : List Nat} {k : Nat} (h : k < xs.length) : bvN (xs.take (k + 1)) = bvN (xs.take k) + 2 ^ k * gd xs k := by
  rw [List.take_succ_eq_append_getElem h, bvN_append, List.length_take, Nat.min_eq_left (by omega), gd_lt h]; simp [bvN]
theorem bvN_take_lt {xs : List Nat} (h : Bin xs) (k : Nat) : bvN (xs.take k) < 2 ^ k := by
  refine Nat.lt_of_lt_of_le (bvN_lt (h.take k)) (Nat.pow_le_pow_right (by omega) ?_)
  rw [List.length_take]; omega
theorem limbs_of_len {ws : List Nat} (h : B64 ws) (hl : ws.length = ln (nv ws)) : limbs (nv ws) = ws := by
  refine limbs_nv h fun x hx h0 => ?_
  have hne : ws.length ≠ 0 := by rintro e; rw [List.length_eq_zero_iff] at e; subst e; cases hx
  rw [List.getLast?_eq_getElem?] at hx
  have e := nv_take_succ (xs := ws) (k := ws.length - 1) (by omega)
  rw [List.take_of_length_le (by omega), gd_some hx, h0, Nat.mul_zero, Nat.add_zero] at e
  have h1 := nv_take_lt h (ws.length - 1)
  rw [← e] at h1
  have := ln_le.2 h1
  omega
theorem ln_bits {m v : Nat} (h : v < 2 ^ m) (h1 : m = 0 ∨ 2 ^ (m - 1) ≤ v) : ln v = (m + 63) / 64 := by
  refine Nat.le_antisymm ?_ ?_
  · rw [ln_le, wpow]
    exact Nat.lt_of_lt_of_le h (Nat.pow_le_pow_right (by omega) (by omega))
  · rcases Nat.lt_or_ge (ln v) ((m + 63) / 64) with hlt | hge
    · exfalso
      have := lt_ln v
      rw [wpow] at this
      have h3 : 2 ^ (64 * ln v) ≤ 2 ^ (m - 1) := Nat.pow_le_pow_right (by omega) (by omega)
      rcases h1 with h1 | h1
      · omega
      · omega
    · exact hge
end Go.Proofs.YtdmglajfmfjmlaaGreat
namespace Go.Proofs.YtdmglajfmfjmlaaGreat
set_option linter.unusedSimpArgs false
set_option linter.unusedVariables false
set_option maxRecDepth 100000
open Go.RowKit Go.Proofs.YtdmglajfmfjmlaaGreatW.PrintWords Go.Proofs.YtdmglajfmfjmlaaGreatW.PrintLast
def binI (m : Nat) (l : List Int) : Prop := l.length ≤ m ∧ ∀ x ∈ l, x = 0 ∨ x = 1
instance (m : Nat) (l : List Int) : Decidable (binI m l) := by unfold binI; exact inferInstance
theorem binI.bin {m : Nat} {l : List Int} (h : binI m l) : Bin (toN l) := by
  intro x hx
  simp only [toN, List.mem_map] at hx
  obtain ⟨y, hy, rfl⟩ := hx
  have := h.2 y hy
  omega
theorem rd_of_C' {k : IntKind} {w : World} {A : Option Addr} {c : Nat} {l : List Int} (h : Kd.C (Kd.int k) w A l.length l) (hc : l.length ≤ c) (ho : ∀ x ∈ l, 0 ≤ x) : Rd k w A l.length c (toN l) := by
  obtain ⟨_, h2, h3⟩ := Kd.reads_of_C (d := (0 : Int)) h
  refine ⟨toN_length l, hc, h2, fun hn => ?_⟩
  obtain ⟨ad, e, hcell⟩ := h3 hn
  refine ⟨ad, e, ?_, fun j x hx => ?_⟩
  · have := World.block_lt_of_cell? w _ (hcell 0 hn)
    rwa [Go.ChangeShapes.block_add] at this
  · have hj : j < l.length := by
      rcases Nat.lt_or_ge j (toN l).length with h | h
      · rwa [toN_length] at h
      · rw [List.getElem?_eq_none h] at hx; cases hx
    rw [hcell j hj]
    have hl : l[j]? = some (l.getD j 0) := by rw [List.getD_eq_getElem?_getD, List.getElem?_eq_getElem hj]; rfl
    have hb := ho (l.getD j 0) (List.mem_of_getElem? hl)
    simp only [toN, List.getElem?_map, hl, Option.map_some, Option.some.injEq] at hx
    congr 2
    omega
theorem lz_giv {a0 r : Int} {w : World} (h : (if 0 ≤ a0 ∧ a0 < 18446744073709551616 then some (64 - (Lib.bitLen a0.toNat : Int)) else none) = some r) :
    Calls Tryz.prog 149 #[.int .u64 a0] w fun e w' => e = .returned (.int .i64 r) ∧ Drawn0 w w' := by
  obtain ⟨h0, rfl⟩ := of_ite h
  refine (YtdmglajfmfjmlaaGreat.bits_LeadingZeros64 a0 w h0.1 (by omega)).mono ?_
  rintro e w' ⟨rfl, rfl⟩
  exact ⟨rfl, Drawn0.refl _⟩
def dg (n : Nat) : List Int := if h : n = 0 then [] else ((n % 2 : Nat) : Int) :: dg (n / 2)
termination_by n
decreasing_by exact Nat.div_lt_self (Nat.pos_of_ne_zero h) (by omega)
theorem dg_zero : dg 0 = [] := by rw [dg]; simp
theorem dgp {n : Nat} (h : n ≠ 0) : dg n = ((n % 2 : Nat) : Int) :: dg (n / 2) := by rw [dg]; simp [h]
def blen (n : Nat) : Nat := (dg n).length
theorem blen_zero : blen 0 = 0 := by unfold blen; rw [dg_zero]; rfl
theorem blen_pos {n : Nat} (h : n ≠ 0) : blen n = blen (n / 2) + 1 := by unfold blen; rw [dgp h]; rfl
theorem blen_le {n k : Nat} : blen n ≤ k ↔ n < 2 ^ k := by
  induction k generalizing n with
  | zero =>
    by_cases h : n = 0
    · subst h; simp [blen_zero]
    · rw [blen_pos h]; simp; omega
  | succ k ih =>
    by_cases h : n = 0
    · subst h; rw [blen_zero]; exact ⟨fun _ => Nat.pow_pos (by omega), fun _ => by omega⟩
    · rw [blen_pos h, Nat.add_le_add_iff_right, ih, Nat.pow_succ, Nat.div_lt_iff_lt_mul (by omega)]
theorem lt_blen (n : Nat) : n < 2 ^ blen n := blen_le.1 (Nat.le_refl _)
theorem dg_length (n : Nat) : (dg n).length = blen n := rfl
def BinL (l : List Int) : Prop := ∀ x ∈ l, x = 0 ∨ x = 1
theorem BinL.nil : BinL [] := fun x h => by cases h
theorem BinL.append {l m : List Int} (h : BinL l) (h' : BinL m) : BinL (l ++ m) := fun x hx => by
  rcases List.mem_append.1 hx with hx | hx
  · exact h x hx
  · exact h' x hx
theorem BinL.one {x : Int} (h : x = 0 ∨ x = 1) : BinL [x] := fun y hy => by rw [List.mem_singleton.1 hy]; exact h
theorem BinL.take {l : List Int} (h : BinL l) (k : Nat) : BinL (l.take k) := fun x hx => h x (List.mem_of_mem_take hx)
theorem BinL.drop {l : List Int} (h : BinL l) (k : Nat) : BinL (l.drop k) := fun x hx => h x (List.mem_of_mem_drop hx)
theorem BinL.set {l : List Int} (h : BinL l) (j : Nat) {y : Int} (hy : y = 0 ∨ y = 1) : BinL (l.set j y) := fun x hx => by
  rcases List.mem_or_eq_of_mem_set hx with hx | rfl
  · exact h x hx
  · exact hy
theorem BinL.replicate (n : Nat) : BinL (List.replicate n 0) := fun x hx => .inl (List.eq_of_mem_replicate hx)
theorem BinL.tail {x : Int} {l : List Int} (h : BinL (x :: l)) : BinL l := fun y hy => h y (by simp [hy])
theorem BinL.binI {l : List Int} (h : BinL l) {m : Nat} (hl : l.length ≤ m) : binI m l := ⟨hl, h⟩
def bz (l : List Int) : Nat := bvN (toN l)
theorem bz_nil : bz [] = 0 := rfl
theorem bz_cons (x : Int) (l : List Int) : bz (x :: l) = x.toNat + 2 * bz l := rfl
theorem bz_append (l m : List Int) : bz (l ++ m) = bz l + 2 ^ l.length * bz m := by
  unfold bz; rw [show toN (l ++ m) = toN l ++ toN m by simp [toN], bvN_append, toN_length]
theorem bz_lt {l : List Int} (h : BinL l) : bz l < 2 ^ l.length := by
  have := bvN_lt (show Bin (toN l) from (h.binI (Nat.le_refl _)).bin)
  rwa [toN_length] at this
theorem bz_dg (n : Nat) : bz (dg n) = n := by
  induction n using Nat.strongRecOn with
  | ind n ih =>
    by_cases h : n = 0
    · subst h; rw [dg_zero]; rfl
    · rw [dgp h, bz_cons, ih _ (Nat.div_lt_self (Nat.pos_of_ne_zero h) (by omega))]; omega
theorem dg_bin (n : Nat) : BinL (dg n) := by
  induction n using Nat.strongRecOn with
  | ind n ih =>
    by_cases h : n = 0
    · subst h; rw [dg_zero]; exact BinL.nil
    · rw [dgp h]
      intro x hx
      rcases List.mem_cons.1 hx with rfl | hx
      · omega
      · exact ih _ (Nat.div_lt_self (Nat.pos_of_ne_zero h) (by omega)) x hx
theorem dg_bz {l : List Int} (h : BinL l) (hl : ∀ x, l.getLast? = some x → x ≠ 0) : dg (bz l) = l := by
  induction l with
  | nil => exact dg_zero
  | cons x l ih =>
    have hx := h x (by simp)
    have e : bz l = 0 → l = [] := by
      intro h0
      rcases l with _ | ⟨y, ys⟩
      · rfl
      · exfalso
        have := ih h.tail fun z hz => hl z (by simpa [List.getLast?_cons_cons] using hz)
        rw [h0, dg_zero] at this
        cases this
    have hne : bz (x :: l) ≠ 0 := by
      intro h0
      rw [bz_cons] at h0
      have h2 := e (by omega)
      subst h2
      exact hl x (by simp) (by omega)
    rw [dgp hne]
    have e1 : ((bz (x :: l) % 2 : Nat) : Int) = x := by rw [bz_cons]; omega
    have e2 : bz (x :: l) / 2 = bz l := by rw [bz_cons]; omega
    rw [e1, e2]
    rcases l with _ | ⟨y, ys⟩
    · rw [bz_nil, dg_zero]
    · rw [ih h.tail fun z hz => hl z (by simpa [List.getLast?_cons_cons] using hz)]
theorem bz_drop (l : List Int) (h : BinL l) (j : Nat) : bz (l.drop j) = bz l / 2 ^ j := by
  rcases Nat.lt_or_ge j l.length with hj | hj
  · have e := bz_append (l.take j) (l.drop j)
    rw [List.take_append_drop, List.length_take, Nat.min_eq_left (by omega)] at e
    have hl := bz_lt (h.take j)
    rw [List.length_take, Nat.min_eq_left (by omega)] at hl
    rw [e, Nat.add_mul_div_left _ _ (Nat.pow_pos (by omega)), Nat.div_eq_of_lt hl, Nat.zero_add]
  · rw [List.drop_eq_nil_of_le hj, Nat.div_eq_of_lt]
    · rfl
    · exact Nat.lt_of_lt_of_le (bz_lt h) (Nat.pow_le_pow_right (by omega) hj)
theorem rd_getD (l : List Int) (j : Nat) : rd l (j : Int) = l.getD j 0 := rfl
theorem bz_digit {l : List Int} (h : BinL l) (j : Nat) : l.getD j 0 = ((bz l / 2 ^ j % 2 : Nat) : Int) := by
  rw [← bz_drop l h j]
  rcases Nat.lt_or_ge j l.length with hj | hj
  · rw [List.drop_eq_getElem_cons hj, bz_cons, List.getD_eq_getElem?_getD, List.getElem?_eq_getElem hj, Option.getD_some]
    have := h l[j] (List.getElem_mem hj)
    omega
  · rw [List.drop_eq_nil_of_le hj, List.getD_eq_getElem?_getD, List.getElem?_eq_none hj]; rfl
theorem mod_next (a i : Nat) : a % 2 ^ (i + 1) = a % 2 ^ i + 2 ^ i * (a / 2 ^ i % 2) := Nat.mod_pow_succ
theorem div_next (a i : Nat) : a / 2 ^ i = 2 * (a / 2 ^ (i + 1)) + a / 2 ^ i % 2 := by
  rw [Nat.pow_succ, ← Nat.div_div_eq_div_mul]; omega
theorem wr {x : Int} (h : -9223372036854775808 ≤ x) (h' : x ≤ 9223372036854775807) : wrap64 x = x := by unfold wrap64; omega
theorem wn {n : Nat} (h : n ≤ 9223372036854775807) : wrap64 (n : Int) = n := wr (by omega) (by omega)
theorem wn1 {n : Nat} (h : n ≤ 9223372036854775806) : wrap64 ((n : Int) + 1) = ((n + 1 : Nat) : Int) := by rw [wr (by omega) (by omega)]; omega
theorem nv_bits_and (a : Nat) (ha : a < 18446744073709551616) : Go.bits .and .u64 (a : Int) 1 = ((a % 2 : Nat) : Int) := by
  have := and_u64 ha (show 1 < 18446744073709551616 by omega)
  rw [show (1 : Int) = ((1 : Nat) : Int) from rfl, this, show 1 = 2 ^ 1 - 1 from rfl, and_mask]
theorem ln2 {a b k m : Nat} (h : ln a ≤ k) (h' : ln b ≤ k) (hk : k + 1 ≤ m) : ln (a + b) ≤ m := Nat.le_trans (ln_add a b k h h') hk
theorem lnm {a b k k' m : Nat} (h : ln a ≤ k) (h' : ln b ≤ k') (hk : k + k' ≤ m) : ln (a * b) ≤ m := by have := ln_mul a b; omega
theorem lns {a b k : Nat} (h : ln a ≤ k) : ln (a - b) ≤ k := Nat.le_trans (ln_mono (Nat.sub_le a b)) h
theorem okS {n : Nat} (h : n < 18446744073709551616) : okN 262144 (ofN n) := okN_ofN (Nat.le_trans (ln_small h) (by omega))
end Go.Proofs.YtdmglajfmfjmlaaGreat
namespace Go.Proofs.YtdmglajfmfjmlaaGreat.Ca
open Go.RowKit Go.Proofs.YtdmglajfmfjmlaaGreatW.PrintWords Go.Proofs.YtdmglajfmfjmlaaGreatW.PrintLast Go.Proofs.YtdmglajfmfjmlaaGreatW.PrintMore
attribute [local go_sem] max2_int min2_int max_two min_two max_three min_three max_four min_four   -- for this text's walks alone
set_option linter.unusedVariables false
set_option linter.unusedSimpArgs false
theorem info23 : (Tryz.prog.info? 23).map (fun i => (i.zero, i.size, i.bytes)) = some (some (.int .u64 0), 1, 8) := by kernel_rfl
end Go.Proofs.YtdmglajfmfjmlaaGreat.Ca
namespace Go.Proofs.YtdmglajfmfjmlaaGreat.Ca
open Go.RowKit Go.Proofs.YtdmglajfmfjmlaaGreatW.PrintWords Go.Proofs.YtdmglajfmfjmlaaGreatW.PrintLast Go.Proofs.YtdmglajfmfjmlaaGreatW.PrintMore
attribute [local go_sem] max2_int min2_int max_two min_two max_three min_three max_four min_four   -- for this text's walks alone
set_option linter.unusedVariables false
set_option linter.unusedSimpArgs false
def nat_Trim.f (l0 : List Int) : Option (List Int) := if okN 262144 l0 then some (ofN (nI l0)) else none
theorem nat_Trim.calls (A0 : Option Addr) (c0 : Nat) (l0 : List Int) (r : List Int) (w : World) (hr0 : Kd.C (Kd.int .u64) w A0 l0.length l0) (hc0 : l0.length ≤ c0) (h : nat_Trim.f l0 = some r) :
  Calls Tryz.prog 126 #[.slice A0 l0.length c0] w fun e w' => ∃ v0_ : Value, e = .returned (v0_) ∧ Kd.R (Kd.int .u64) 23 w' w.heap.size (fun _ => True) v0_ r ∧ Below w.heap.size w w' := by
 exact trim_giv hr0 hc0 h
def bits_LeadingZeros64.f (a0 : Int) : Option (Int) := if 0 ≤ a0 ∧ a0 < 18446744073709551616 then some (64 - (Lib.bitLen a0.toNat : Int)) else none
theorem bits_LeadingZeros64.calls (a0 : Int) (r : Int) (w : World) (h : bits_LeadingZeros64.f a0 = some r) :
  Calls Tryz.prog 149 #[.int .u64 a0] w fun e w' => e = .returned (.int .i64 r) ∧ Drawn0 w w' := by
 exact lz_giv h
def nat_Bits.f (l0 : List Int) : Option (Int) := (nat_Trim.f l0).bind fun t101 => (if (t101.length : Int) = 0 then (some 0) else (if 0 ≤ (wrap64 ((t101.length : Int) - 1)) then (if (wrap64 ((t101.length : Int) - 1)) < (t101.length : Int) then ((bits_LeadingZeros64.f (rd t101 (wrap64 ((t101.length : Int) - 1)))).bind fun t105 => (some (wrap64 ((wrap64 (64 * (t101.length : Int))) - t105)))) else (none)) else (none)))
set_option maxHeartbeats 8000000 in
set_option maxRecDepth 100000 in
theorem nat_Bits.calls (A0 : Option Addr) (c0 : Nat) (l0 : List Int) (r : Int) (w : World) (hr0 : Kd.C (Kd.int .u64) w A0 l0.length l0) (hc0 : l0.length ≤ c0) (h : nat_Bits.f l0 = some r) :
  Calls Tryz.prog 74 #[.slice A0 l0.length c0] w fun e w' => e = .returned (.int .i64 r) ∧ Below w.heap.size w w' := by
 have HR0 := Aside0.mk hr0
 have HC0 := Aside0.mk hc0
 clear hr0 hc0
 have HB := Aside0.mk (Below.refl w.heap.size w)
 have H : ((nat_Trim.f l0).bind fun t101 => (if (t101.length : Int) = 0 then (some 0) else (if 0 ≤ (wrap64 ((t101.length : Int) - 1)) then (if (wrap64 ((t101.length : Int) - 1)) < (t101.length : Int) then ((bits_LeadingZeros64.f (rd t101 (wrap64 ((t101.length : Int) - 1)))).bind fun t105 => (some (wrap64 ((wrap64 (64 * (t101.length : Int))) - t105)))) else (none)) else (none)))) = some r := h
 clear h
 replace H := Option.bind_eq_some_iff.mp H
 obtain ⟨t101, A20, H⟩ := H
 try dsimp only at H
 have A2 := Aside0.mk A20
 clear A20
 by_cases c3 : (t101.length : Int) = 0
 ·rw [if_pos c3] at H
  have c3b0 : ((t101.length : Int) == 0) = true := beq_iff_eq.mpr c3
  have c3b1 : ((t101.length : Int) != 0) = false := bne_eq_false_iff_eq.mpr c3
  clear c3
  obtain rfl := Option.some.inj H
  simp only [Option.some.injEq, Prod.mk.injEq] at H
  obtain ⟨rfl⟩ := H
  go_enter Tryz.func74, Tryz.ntmps74
  go_wp2_with ((((with_reducible refine gate_callee (f := 126) rfl ?_); refine goesL_ (some 4) rfl rfl Tryz.func126 (by kernel_rfl) rfl #[.slice A0 l0.length c0] rfl (by (try simp only [List.map_toArray, List.map_cons, List.map_nil]); rfl) ?_; (with_reducible refine (nat_Trim.calls _ _ l0 t101 _ ?side1 ?side2 A2.out).mono ?_); (case side1 => exact HR0.out); (case side2 => exact HC0.out); rintro e w4 ⟨v102, rfl, ho0, hb⟩; refine ⟨_, rfl, ?_⟩; have HO103 := Aside0.mk (Kd.R_lower ho0 (below_size HB.out)); replace HB := Aside0.mk (below_step HB.out hb); clear hb ho0; obtain ⟨Ao5, co5, eo5⟩ := Kd.R_slice HO103.out; subst eo5)))
  go_ret
  exact ⟨by rfl, HB.out⟩
 ·rw [if_neg c3] at H
  have c3b0 : ((t101.length : Int) == 0) = false := beq_eq_false_iff_ne.mpr c3
  have c3b1 : ((t101.length : Int) != 0) = true := bne_iff_ne.mpr c3
  have c3b2 : ¬ (t101 = []) := fun h_ => c3 (by rw [h_]; rfl)
  obtain ⟨ji6, hji6⟩ : ∃ j_ : Int, (wrap64 ((t101.length : Int) - 1)) = j_ := ⟨_, rfl⟩
  rw [hji6] at H
  (try rw [hji6] at A2)
  have hji6w : (IntKind.i64.wrap ((t101.length : Int) - 1)) = ji6 := (i64_w _).trans hji6
  by_cases c7 : 0 ≤ (ji6)
  ·rw [if_pos c7] at H
   have c7b0 : decide (0 ≤ (ji6)) = true := decide_eq_true c7
   clear c7
   by_cases c8 : (ji6) < (t101.length : Int)
   ·rw [if_pos c8] at H
    have c8b0 : decide ((ji6) < (t101.length : Int)) = true := decide_eq_true c8
    clear c8
    replace H := Option.bind_eq_some_iff.mp H
    obtain ⟨t105, A90, H⟩ := H
    try dsimp only at H
    have A9 := Aside0.mk A90
    clear A90
    obtain rfl := Option.some.inj H
    simp only [Option.some.injEq, Prod.mk.injEq] at H
    obtain ⟨rfl⟩ := H
    go_enter Tryz.func74, Tryz.ntmps74
    go_wp2_with (first | ((with_reducible refine gate_callee (f := 126) rfl ?_); refine goesL_ (some 4) rfl rfl Tryz.func126 (by kernel_rfl) rfl #[.slice A0 l0.length c0] rfl (by (try simp only [List.map_toArray, List.map_cons, List.map_nil]); rfl) ?_; (with_reducible refine (nat_Trim.calls _ _ l0 t101 _ ?side1 ?side2 A2.out).mono ?_); (case side1 => exact HR0.out); (case side2 => exact HC0.out); rintro e w10 ⟨v102, rfl, ho0, hb⟩; refine ⟨_, rfl, ?_⟩; have HO103 := Aside0.mk (Kd.R_lower ho0 (below_size HB.out)); replace HB := Aside0.mk (below_step HB.out hb); clear hb ho0; obtain ⟨Ao11, co11, eo11⟩ := Kd.R_slice HO103.out; subst eo11; have p104 : 0 ≤ ((ji6) : Int) := of_decide_eq_true (by (with_reducible assumption)); have q104 : (ji6) < (t101.length : Int) := of_decide_eq_true (by (with_reducible assumption)); obtain ⟨ad104, e104, hx104_0⟩ := Kd.at_int (Kd.R_reads' HO103.out).2.2 (ji6) p104 q104; cases e104; replace p104 := eq_true p104; replace q104 := eq_true q104) | ((with_reducible refine gate_callee (f := 149) rfl ?_); refine goesL_ (some 17) rfl rfl Tryz.func149 (by kernel_rfl) rfl #[.int .u64 (rd t101 (ji6))] rfl (by (try simp only [List.map_toArray, List.map_cons, List.map_nil]); rfl) ?_; (with_reducible refine (bits_LeadingZeros64.calls (rd t101 (ji6)) t105 _ A9.out).mono ?_); rintro e w' ⟨rfl, ⟨nd, rfl⟩⟩; refine ⟨_, rfl, ?_⟩))
    go_ret
    exact ⟨by rfl, by repeat ((with_reducible first | exact HB.out | apply pw_below_drewN))⟩
   ·rw [if_neg c8] at H
    exact absurd H (by simp)
  ·rw [if_neg c7] at H
   exact absurd H (by simp)
def nat_Bit.f (l0 : List Int) (a1 : Int) : Option (Int) := if a1 < 0 then (some 0) else (if (wrap64 (Int.tdiv a1 64)) ≥ (l0.length : Int) then (some 0) else (if 0 ≤ (wrap64 (Int.tdiv a1 64)) then (if (wrap64 (Int.tdiv a1 64)) < (l0.length : Int) then (if 0 ≤ (Int.tmod a1 64) then (some (wrap64 (Go.bits .and .u64 (shr .u64 (rd l0 (wrap64 (Int.tdiv a1 64))) (Int.tmod a1 64)) 1))) else (none)) else (none)) else (none)))
set_option maxHeartbeats 8000000 in
set_option maxRecDepth 100000 in
theorem nat_Bit.calls (A0 : Option Addr) (c0 : Nat) (l0 : List Int) (a1 : Int) (r : Int) (w : World) (hr0 : Kd.C (Kd.int .u64) w A0 l0.length l0) (hc0 : l0.length ≤ c0) (h : nat_Bit.f l0 a1 = some r) :
  Calls Tryz.prog 133 #[.slice A0 l0.length c0, .int .i64 a1] w fun e w' => e = .returned (.int .i64 r) ∧ Drawn0 w w' := by
 have HR0 := Aside0.mk hr0
 have HC0 := Aside0.mk hc0
 clear hr0 hc0
 have H : (if a1 < 0 then (some 0) else (if (wrap64 (Int.tdiv a1 64)) ≥ (l0.length : Int) then (some 0) else (if 0 ≤ (wrap64 (Int.tdiv a1 64)) then (if (wrap64 (Int.tdiv a1 64)) < (l0.length : Int) then (if 0 ≤ (Int.tmod a1 64) then (some (wrap64 (Go.bits .and .u64 (shr .u64 (rd l0 (wrap64 (Int.tdiv a1 64))) (Int.tmod a1 64)) 1))) else (none)) else (none)) else (none)))) = some r := h
 clear h
 by_cases c3 : a1 < 0
 ·rw [if_pos c3] at H
  have c3b0 : decide (a1 < 0) = true := decide_eq_true c3
  clear c3
  obtain rfl := Option.some.inj H
  simp only [Option.some.injEq, Prod.mk.injEq] at H
  obtain ⟨rfl⟩ := H
  go_enter Tryz.func133, Tryz.ntmps133
  go_wp2
  go_ret
  exact ⟨by rfl, by repeat ((exact Drawn0.refl _))⟩
 ·rw [if_neg c3] at H
  have c3b0 : decide (a1 < 0) = false := decide_eq_false c3
  clear c3
  by_cases c4 : (wrap64 (Int.tdiv a1 64)) ≥ (l0.length : Int)
  ·rw [if_pos c4] at H
   have c4b0 : decide ((l0.length : Int) ≤ (wrap64 (Int.tdiv a1 64))) = true := decide_eq_true c4
   clear c4
   obtain rfl := Option.some.inj H
   simp only [Option.some.injEq, Prod.mk.injEq] at H
   obtain ⟨rfl⟩ := H
   go_enter Tryz.func133, Tryz.ntmps133
   go_wp2
   go_ret
   exact ⟨by rfl, by repeat ((exact Drawn0.refl _))⟩
  ·rw [if_neg c4] at H
   have c4b0 : decide ((l0.length : Int) ≤ (wrap64 (Int.tdiv a1 64))) = false := decide_eq_false c4
   clear c4
   obtain ⟨ji5, hji5⟩ : ∃ j_ : Int, (wrap64 (Int.tdiv a1 64)) = j_ := ⟨_, rfl⟩
   rw [hji5] at H
   (try rw [hji5] at c4b0)
   have hji5w : (IntKind.i64.wrap (Int.tdiv a1 64)) = ji5 := (i64_w _).trans hji5
   by_cases c6 : 0 ≤ (ji5)
   ·rw [if_pos c6] at H
    have c6b0 : decide (0 ≤ (ji5)) = true := decide_eq_true c6
    clear c6
    by_cases c7 : (ji5) < (l0.length : Int)
    ·rw [if_pos c7] at H
     have c7b0 : decide ((ji5) < (l0.length : Int)) = true := decide_eq_true c7
     clear c7
     obtain ⟨ji8, hji8⟩ : ∃ j_ : Int, (Int.tmod a1 64) = j_ := ⟨_, rfl⟩
     rw [hji8] at H
     by_cases c9 : 0 ≤ (ji8)
     ·rw [if_pos c9] at H
      have c9b0 := eq_true c9
      have c9b1 : decide (0 ≤ (ji8)) = true := decide_eq_true c9
      clear c9
      obtain ⟨ji10, hji10⟩ : ∃ j_ : Int, (shr .u64 (rd l0 (ji5)) (ji8)) = j_ := ⟨_, rfl⟩
      rw [hji10] at H
      have hji10_ : ((rd l0 (ji5)) / 2 ^ min (ji8).toNat 64) = ji10 := hji10
      have hji10z : (ji8) ≤ 64 → ((rd l0 (ji5)) / 2 ^ (ji8).toNat) = ji10 := shr_small hji10
      obtain rfl := Option.some.inj H
      simp only [Option.some.injEq, Prod.mk.injEq] at H
      obtain ⟨rfl⟩ := H
      have p106 : 0 ≤ ((ji5) : Int) := of_decide_eq_true (by (with_reducible assumption))
      have q106 : (ji5) < (l0.length : Int) := of_decide_eq_true (by (with_reducible assumption))
      obtain ⟨ad106, e106, hx106_0⟩ := Kd.at_int HR0.out (ji5) p106 q106
      cases e106
      replace p106 := eq_true p106
      replace q106 := eq_true q106
      go_enter Tryz.func133, Tryz.ntmps133
      go_wp2
      go_ret
      exact ⟨by rfl, by repeat ((exact Drawn0.refl _))⟩
     ·rw [if_neg c9] at H
      exact absurd H (by simp)
    ·rw [if_neg c7] at H
     exact absurd H (by simp)
   ·rw [if_neg c6] at H
    exact absurd H (by simp)
end Go.Proofs.YtdmglajfmfjmlaaGreat.Ca
namespace Go.Proofs.YtdmglajfmfjmlaaGreat.Ca
open Go.RowKit Go.Proofs.YtdmglajfmfjmlaaGreatW.PrintWords Go.Proofs.YtdmglajfmfjmlaaGreatW.PrintLast Go.Proofs.YtdmglajfmfjmlaaGreatW.PrintMore
attribute [local go_sem] max2_int min2_int max_two min_two max_three min_three max_four min_four   -- for this text's walks alone
set_option linter.unusedVariables false
set_option linter.unusedSimpArgs false
end Go.Proofs.YtdmglajfmfjmlaaGreat.Ca
namespace Go.Proofs.YtdmglajfmfjmlaaGreat
set_option linter.unusedSimpArgs false
set_option linter.unusedVariables false
set_option maxRecDepth 100000
open Go.RowKit Go.Proofs.YtdmglajfmfjmlaaGreatW.PrintWords Go.Proofs.YtdmglajfmfjmlaaGreatW.PrintLast Go.Proofs.YtdmglajfmfjmlaaGreatW.PrintMore
theorem blen_eq {x k : Nat} (h0 : 2 ^ k ≤ x) (h1 : x < 2 ^ (k + 1)) : blen x = k + 1 := by
  refine Nat.le_antisymm (blen_le.2 h1) ?_
  rcases Nat.lt_or_ge k (blen x) with h | h
  · exact h
  · have := blen_le.1 h; omega
theorem blen_top {x : Nat} (hx : x ≠ 0) : ∃ k, Lib.bitLen (gd (limbs x) (ln x - 1)) = k + 1 ∧ k < 64 ∧ blen x = 64 * (ln x - 1) + k + 1 := by
  have hl1 : ln x ≠ 0 := by have := ln_pos hx; omega
  have hll : (limbs x).length = ln x := rfl
  have htop0 : gd (limbs x) (ln x - 1) ≠ 0 := by
    refine limbs_last x _ ?_
    rw [List.getLast?_eq_getElem?]; exact gd_get (by omega)
  obtain ⟨k, hk, hk64, hk1, hk2⟩ := bitLen_spec (gd (limbs x) (ln x - 1)) htop0 ((limbs_b64 x).gd _)
  refine ⟨k, hk, hk64, ?_⟩
  obtain ⟨m, hm⟩ : ∃ m, ln x - 1 = m := ⟨_, rfl⟩
  have hlm : ln x = m + 1 := by omega
  rw [hm] at htop0 hk hk1 hk2
  rw [hm]
  have s := nv_split (limbs x) m (by omega)
  rw [nv_limbs, nv_drop (by omega), List.drop_eq_nil_of_le (by omega)] at s
  simp only [nv, Nat.mul_zero, Nat.add_zero] at s
  have hlo := nv_take_lt (limbs_b64 x) m
  generalize gd (limbs x) m = t at *
  generalize nv ((limbs x).take m) = lo at *
  rw [wpow] at s hlo
  have e1 : 2 ^ (64 * m + k) = 2 ^ (64 * m) * 2 ^ k := Nat.pow_add _ _ _
  have e2 : 2 ^ (64 * m + k + 1) = 2 ^ (64 * m) * 2 ^ (k + 1) := by rw [Nat.add_assoc, Nat.pow_add]
  have h1 := Nat.mul_le_mul_left (2 ^ (64 * m)) hk1
  have h2 := Nat.mul_le_mul_left (2 ^ (64 * m)) hk2
  have h2' : 2 ^ (64 * m) * (t + 1) ≤ 2 ^ (64 * m) * 2 ^ (k + 1) := h2
  rw [Nat.mul_add] at h2'
  exact blen_eq (by omega) (by omega)
theorem rd_ofN (x j : Nat) (h : j < ln x) : rd (ofN x) (j : Int) = ((gd (limbs x) j : Nat) : Int) := by
  rw [rd_getD, List.getD_eq_getElem?_getD]
  unfold ofN
  rw [List.getElem?_map, gd_get (show j < (limbs x).length from h)]; rfl
theorem rd_toN {m : Nat} {l : List Int} (h : okN m l) {j : Nat} (hj : j < l.length) : rd l (j : Int) = ((gd (toN l) j : Nat) : Int) := by
  rw [rd_getD, List.getD_eq_getElem?_getD, List.getElem?_eq_getElem hj, Option.getD_some]
  have := h.2 _ (List.getElem_mem hj)
  have e : gd (toN l) j = l[j].toNat := gd_some (by simp [toN, List.getElem?_eq_getElem hj])
  rw [e]; omega
theorem bits_pure {l0 : List Int} (h : okN 262144 l0) : Ca.nat_Bits.f l0 = some ((blen (nI l0) : Nat) : Int) := by
  have hln := ln_nI h
  unfold Ca.nat_Bits.f Ca.nat_Trim.f
  rw [if_pos h, Option.bind_some, ofN_length]
  by_cases h0 : nI l0 = 0
  · rw [h0, ln_zero, blen_zero]; rfl
  · have h1 : ln (nI l0) ≠ 0 := by have := ln_pos h0; omega
    have e : wrap64 ((ln (nI l0) : Int) - 1) = ((ln (nI l0) - 1 : Nat) : Int) := by rw [wr (by omega) (by omega)]; omega
    obtain ⟨k, hk, hk64, hb⟩ := blen_top h0
    have ht := (limbs_b64 (nI l0)).gd (ln (nI l0) - 1)
    rw [if_neg (by omega), e, if_pos (by omega), if_pos (by omega), rd_ofN _ _ (by omega)]
    unfold Ca.bits_LeadingZeros64.f
    rw [if_pos (by omega), Option.bind_some, Int.toNat_natCast, hk, hb]
    rw [wr (x := 64 * (ln (nI l0) : Int)) (by omega) (by omega), wr (by omega) (by omega)]
    congr 1; omega
theorem limb_part (xs : List Nat) (h : B64 xs) (q r w : Nat) (hr : r + w ≤ 64) : gd xs q / 2 ^ r % 2 ^ w = nv xs / 2 ^ (64 * q + r) % 2 ^ w := by
  have e1 : nv xs / 2 ^ (64 * q) = nv (xs.drop q) := by rw [nv_drop_div h, wpow]
  have e2 : nv xs / 2 ^ (64 * q + r) = nv (xs.drop q) / 2 ^ r := by
    rw [← e1, Nat.div_div_eq_div_mul, ← Nat.pow_add]
  rw [e2, nv_drop_any]
  generalize nv (xs.drop (q + 1)) = Y
  generalize gd xs q = x
  have e3 : 18446744073709551616 * Y = 2 ^ r * (2 ^ w * (2 ^ (64 - r - w) * Y)) := by
    rw [← Nat.mul_assoc, ← Nat.mul_assoc, show 2 ^ r * 2 ^ w * 2 ^ (64 - r - w) = 18446744073709551616 by rw [← Nat.pow_add, ← Nat.pow_add, show r + w + (64 - r - w) = 64 by omega]]
  rw [e3, Nat.add_mul_div_left _ _ (Nat.pow_pos (by omega)), Nat.add_mul_mod_self_left]
theorem limb_bit (xs : List Nat) (h : B64 xs) (i : Nat) : gd xs (i / 64) / 2 ^ (i % 64) % 2 = nv xs / 2 ^ i % 2 := by
  have e1 : nv xs / 2 ^ (64 * (i / 64)) = nv (xs.drop (i / 64)) := by rw [nv_drop_div h, wpow]
  have e2 : nv xs / 2 ^ i = nv (xs.drop (i / 64)) / 2 ^ (i % 64) := by
    rw [← e1, Nat.div_div_eq_div_mul, ← Nat.pow_add, show 64 * (i / 64) + i % 64 = i by omega]
  rw [e2, nv_drop_any]
  have hr : i % 64 < 64 := Nat.mod_lt _ (by omega)
  generalize i % 64 = r at *
  generalize nv (xs.drop (i / 64 + 1)) = Y
  generalize gd xs (i / 64) = x
  have e3 : 18446744073709551616 * Y = 2 ^ r * (2 * (2 ^ (63 - r) * Y)) := by
    rw [← Nat.mul_assoc, ← Nat.mul_assoc, show 2 ^ r * 2 * 2 ^ (63 - r) = 18446744073709551616 by rw [← Nat.pow_succ, ← Nat.pow_add, show r.succ + (63 - r) = 64 by omega]]
  rw [e3, Nat.add_mul_div_left _ _ (Nat.pow_pos (by omega))]; omega
theorem bit_pure {l0 : List Int} (a1 : Int) (h : okN 262144 l0) (ha : a1 ≤ 9223372036854775807) : Ca.nat_Bit.f l0 a1 = some (if a1 < 0 then 0 else ((nI l0 / 2 ^ a1.toNat % 2 : Nat) : Int)) := by
  unfold Ca.nat_Bit.f
  by_cases h0 : a1 < 0
  · rw [if_pos h0, if_pos h0]
  · obtain ⟨i, rfl⟩ : ∃ i : Nat, a1 = i := ⟨a1.toNat, by omega⟩
    have hl := h.1
    have e : Int.tdiv (i : Int) 64 = ((i / 64 : Nat) : Int) := by rw [Int.tdiv_eq_ediv_of_nonneg (by omega)]; omega
    have e2 : Int.tmod (i : Int) 64 = ((i % 64 : Nat) : Int) := by rw [Int.tmod_eq_emod_of_nonneg (by omega)]; omega
    have hr : i % 64 < 64 := Nat.mod_lt _ (by omega)
    rw [if_neg h0, if_neg h0, e, e2, wr (by omega) (by omega), Int.toNat_natCast]
    have hb := limb_bit (toN l0) h.b64 i
    unfold nI
    by_cases h1 : i / 64 < l0.length
    · rw [if_neg (by omega), if_pos (by omega), if_pos (by omega), if_pos (by omega), rd_toN h h1]
      have hg := h.b64.gd (i / 64)
      have es : shr .u64 ((gd (toN l0) (i / 64) : Nat) : Int) ((i % 64 : Nat) : Int) = ((gd (toN l0) (i / 64) / 2 ^ (i % 64) : Nat) : Int) := by
        unfold shr
        rw [Int.toNat_natCast, show min (i % 64) IntKind.u64.bits = i % 64 from Nat.min_eq_left (by have : IntKind.u64.bits = 64 := rfl; omega)]
        push_cast; rfl
      rw [es, nv_bits_and _ (Nat.lt_of_le_of_lt (Nat.div_le_self _ _) hg), hb, wr (by omega) (by omega)]
    · rw [if_pos (by omega)]
      rw [gd_ge (by rw [toN_length]; omega)] at hb
      simp at hb
      rw [← hb]; rfl
end Go.Proofs.YtdmglajfmfjmlaaGreat
namespace Go.Proofs.YtdmglajfmfjmlaaGreat
set_option linter.unusedSimpArgs false
set_option linter.unusedVariables false
set_option maxRecDepth 100000
open Go.RowKit Go.Proofs.YtdmglajfmfjmlaaGreatW.PrintWords Go.Proofs.YtdmglajfmfjmlaaGreatW.PrintLast Go.Proofs.YtdmglajfmfjmlaaGreatW.PrintMore
def okB (l : List Int) : Prop := ∀ x ∈ l, 0 ≤ x ∧ x < 256
instance (l : List Int) : Decidable (okB l) := by unfold okB; exact inferInstance
end Go.Proofs.YtdmglajfmfjmlaaGreat
namespace Go.Proofs.YtdmglajfmfjmlaaGreat.Cs
open Go.RowKit Go.Proofs.YtdmglajfmfjmlaaGreatW.PrintWords Go.Proofs.YtdmglajfmfjmlaaGreatW.PrintLast Go.Proofs.YtdmglajfmfjmlaaGreatW.PrintMore
attribute [local go_sem] max2_int min2_int max_two min_two max_three min_three max_four min_four   -- for this text's walks alone
set_option linter.unusedVariables false
set_option linter.unusedSimpArgs false
end Go.Proofs.YtdmglajfmfjmlaaGreat.Cs
namespace Go.Proofs.YtdmglajfmfjmlaaGreat.Cs
open Go.RowKit Go.Proofs.YtdmglajfmfjmlaaGreatW.PrintWords Go.Proofs.YtdmglajfmfjmlaaGreatW.PrintLast Go.Proofs.YtdmglajfmfjmlaaGreatW.PrintMore
attribute [local go_sem] max2_int min2_int max_two min_two max_three min_three max_four min_four   -- for this text's walks alone
set_option linter.unusedVariables false
set_option linter.unusedSimpArgs false
def clepsydraref01_Same.l0 : Nat → List Int → List Int → Int → Option (Bool)
  | 0, _, _, _ => none
  | k + 1, x0, x1, x5 => if x5 < (x0.length : Int) then (if 0 ≤ x5 then (if x5 < (x1.length : Int) then (if (rd x0 x5) = (rd x1 x5) then (clepsydraref01_Same.l0 k x0 x1 (wrap64 (x5 + 1))) else (some false)) else (none)) else (none)) else (some true)
def clepsydraref01_Same.f (k : Nat) (l0 : List Int) (l1 : List Int) : Option (Bool) := if (l0.length : Int) = (l1.length : Int) then (clepsydraref01_Same.l0 k l0 l1 0) else (some false)
set_option maxHeartbeats 8000000 in
set_option maxRecDepth 100000 in
theorem clepsydraref01_Same.calls (k : Nat) (A0 : Option Addr) (c0 : Nat) (l0 : List Int) (A1 : Option Addr) (c1 : Nat) (l1 : List Int) (r : Bool) (w : World) (hr0 : Kd.C (Kd.int .u64) w A0 l0.length l0) (hc0 : l0.length ≤ c0) (hr1 : Kd.C (Kd.int .u64) w A1 l1.length l1) (hc1 : l1.length ≤ c1) (h : clepsydraref01_Same.f k l0 l1 = some r) :
    Calls Tryz.prog 35 #[.slice A0 l0.length c0, .slice A1 l1.length c1] w fun e w' => e = .returned (.bool r) ∧ Drawn0 w w' := by
  have HR0 := Aside0.mk hr0
  have HC0 := Aside0.mk hc0
  clear hr0 hc0
  have HR1 := Aside0.mk hr1
  have HC1 := Aside0.mk hc1
  clear hr1 hc1
  have H : (if (l0.length : Int) = (l1.length : Int) then (clepsydraref01_Same.l0 k l0 l1 0) else (some false)) = some r := h
  clear h
  by_cases c3 : (l0.length : Int) = (l1.length : Int)
  · rw [if_pos c3] at H
    have c3b0 : ((l0.length : Int) == (l1.length : Int)) = true := beq_iff_eq.mpr c3
    have c3b1 : ((l0.length : Int) != (l1.length : Int)) = false := bne_eq_false_iff_eq.mpr c3
    have c3b2 : (l0.length == l1.length) = true := by first | simpa using c3 | (simp at c3 ⊢; omega)
    clear c3
    have H' := Aside0.mk H
    clear H
    go_enter Tryz.func35, Tryz.ntmps35
    go_wp2
    repeat (go_quiet (fail); try go_wp2)
    go_loopg [5] k (fun kq v5 w' => ∃ (x5_1 : Int), v5 = .int .i64 x5_1 ∧ Aside0 (clepsydraref01_Same.l0 kq l0 l1 x5_1 = some r) ∧ Aside0 (kq ≤ k) ∧ Drawn0 w w')
    case atStart => exact ⟨(0), (by first | rfl | (simp; done) | (simp [*]; done)), H', ⟨Nat.le_refl _⟩, by repeat (first | exact Drawn0.refl _ | apply Drawn0.step)⟩
    case round =>
      clear H'
      try clear c1
      try clear p2
      try clear c3
      try clear c3b0
      try clear c3b1
      try clear c3b2
      obtain ⟨x5_1, rfl, HA, HK1, ⟨m1, rfl⟩⟩ := hrel
      cases gk with
      | zero => exact absurd HA.out (by simp [clepsydraref01_Same.l0])
      | succ k1 =>
        have H := HA.out
        clear HA
        simp only [clepsydraref01_Same.l0] at H
        by_cases c4 : x5_1 < (l0.length : Int)
        · rw [if_pos c4] at H
          have c4b0 : decide (x5_1 < (l0.length : Int)) = true := decide_eq_true c4
          clear c4
          by_cases c5 : 0 ≤ x5_1
          · rw [if_pos c5] at H
            have c5b0 : decide (0 ≤ x5_1) = true := decide_eq_true c5
            clear c5
            by_cases c6 : x5_1 < (l1.length : Int)
            · rw [if_pos c6] at H
              have c6b0 : decide (x5_1 < (l1.length : Int)) = true := decide_eq_true c6
              clear c6
              by_cases c7 : (rd l0 x5_1) = (rd l1 x5_1)
              · rw [if_pos c7] at H
                have c7b0 : ((rd l0 x5_1) == (rd l1 x5_1)) = true := beq_iff_eq.mpr c7
                have c7b1 : ((rd l0 x5_1) != (rd l1 x5_1)) = false := bne_eq_false_iff_eq.mpr c7
                clear c7
                have H' := Aside0.mk H
                clear H
                have p101 : 0 ≤ (x5_1 : Int) := of_decide_eq_true (by first | (with_reducible assumption) | assumption)
                have q101 : x5_1 < (l0.length : Int) := of_decide_eq_true (by first | (with_reducible assumption) | assumption)
                obtain ⟨ad101, e101, hx101_0⟩ := Kd.at_int HR0.out x5_1 p101 q101
                cases e101
                replace p101 := eq_true p101
                replace q101 := eq_true q101
                have p102 : 0 ≤ (x5_1 : Int) := of_decide_eq_true (by first | (with_reducible assumption) | assumption)
                have q102 : x5_1 < (l1.length : Int) := of_decide_eq_true (by first | (with_reducible assumption) | assumption)
                obtain ⟨ad102, e102, hx102_0⟩ := Kd.at_int HR1.out x5_1 p102 q102
                cases e102
                replace p102 := eq_true p102
                replace q102 := eq_true q102
                go_wp2
                repeat (go_quiet (fail); try go_wp2)
                go_roundg k1
                case measure => have := HK1.out; omega
                case rel => exact ⟨(wrap64 (x5_1 + 1)), (by first | rfl | (simp; done) | (simp [*]; done)), H', ⟨by have := HK1.out; omega⟩, by repeat (first | exact Drawn0.refl _ | apply Drawn0.step)⟩
              · rw [if_neg c7] at H
                have c7b0 : ((rd l0 x5_1) == (rd l1 x5_1)) = false := beq_eq_false_iff_ne.mpr c7
                have c7b1 : ((rd l0 x5_1) != (rd l1 x5_1)) = true := bne_iff_ne.mpr c7
                obtain rfl := Option.some.inj H
                simp only [Option.some.injEq, Prod.mk.injEq] at H
                obtain ⟨rfl⟩ := H
                have p101 : 0 ≤ (x5_1 : Int) := of_decide_eq_true (by first | (with_reducible assumption) | assumption)
                have q101 : x5_1 < (l0.length : Int) := of_decide_eq_true (by first | (with_reducible assumption) | assumption)
                obtain ⟨ad101, e101, hx101_0⟩ := Kd.at_int HR0.out x5_1 p101 q101
                cases e101
                replace p101 := eq_true p101
                replace q101 := eq_true q101
                have p102 : 0 ≤ (x5_1 : Int) := of_decide_eq_true (by first | (with_reducible assumption) | assumption)
                have q102 : x5_1 < (l1.length : Int) := of_decide_eq_true (by first | (with_reducible assumption) | assumption)
                obtain ⟨ad102, e102, hx102_0⟩ := Kd.at_int HR1.out x5_1 p102 q102
                cases e102
                replace p102 := eq_true p102
                replace q102 := eq_true q102
                go_wp2
                repeat (go_quiet (fail); try go_wp2)
                go_ret
                exact ⟨by first | rfl | (simp; done) | (simp [*]; done), by repeat (first | exact Drawn0.refl _ | apply Drawn0.step)⟩
            · rw [if_neg c6] at H
              exact absurd H (by simp)
          · rw [if_neg c5] at H
            exact absurd H (by simp)
        · rw [if_neg c4] at H
          have c4b0 : decide (x5_1 < (l0.length : Int)) = false := decide_eq_false c4
          clear c4
          obtain rfl := Option.some.inj H
          simp only [Option.some.injEq, Prod.mk.injEq] at H
          obtain ⟨rfl⟩ := H
          go_wp2
          repeat (go_quiet (fail); try go_wp2)
          go_ret
          exact ⟨by first | rfl | (simp; done) | (simp [*]; done), by repeat (first | exact Drawn0.refl _ | apply Drawn0.step)⟩
  · rw [if_neg c3] at H
    have c3b0 : ((l0.length : Int) == (l1.length : Int)) = false := beq_eq_false_iff_ne.mpr c3
    have c3b1 : ((l0.length : Int) != (l1.length : Int)) = true := bne_iff_ne.mpr c3
    have c3b2 : (l0.length == l1.length) = false := by first | simpa using c3 | (simp at c3 ⊢; omega)
    obtain rfl := Option.some.inj H
    simp only [Option.some.injEq, Prod.mk.injEq] at H
    obtain ⟨rfl⟩ := H
    go_enter Tryz.func35, Tryz.ntmps35
    go_wp2
    repeat (go_quiet (fail); try go_wp2)
    go_ret
    exact ⟨by first | rfl | (simp; done) | (simp [*]; done), by repeat (first | exact Drawn0.refl _ | apply Drawn0.step)⟩
end Go.Proofs.YtdmglajfmfjmlaaGreat.Cs
namespace Go.Proofs.YtdmglajfmfjmlaaGreat.Cs
open Go.RowKit Go.Proofs.YtdmglajfmfjmlaaGreatW.PrintWords Go.Proofs.YtdmglajfmfjmlaaGreatW.PrintLast Go.Proofs.YtdmglajfmfjmlaaGreatW.PrintMore
attribute [local go_sem] max2_int min2_int max_two min_two max_three min_three max_four min_four   -- for this text's walks alone
set_option linter.unusedVariables false
set_option linter.unusedSimpArgs false
end Go.Proofs.YtdmglajfmfjmlaaGreat.Cs
namespace Go.Proofs.YtdmglajfmfjmlaaGreat
set_option linter.unusedSimpArgs false
set_option linter.unusedVariables false
set_option maxRecDepth 100000
open Go.RowKit Go.Proofs.YtdmglajfmfjmlaaGreatW.PrintWords Go.Proofs.YtdmglajfmfjmlaaGreatW.PrintLast Go.Proofs.YtdmglajfmfjmlaaGreatW.PrintMore
section
variable {A0 A1 : Option Addr} {c0 c1 : Nat} {l0 l1 : List Int} {w : World}
theorem bits_giv {r : Int} (hr0 : Kd.C (Kd.int .u64) w A0 l0.length l0) (hc0 : l0.length ≤ c0) (h : (if okN 262144 l0 then some ((blen (nI l0) : Nat) : Int) else none) = some r) :
    Calls Tryz.prog 74 #[.slice A0 l0.length c0] w fun e w' => e = .returned (.int .i64 r) ∧ Below w.heap.size w w' := by
  obtain ⟨h0, rfl⟩ := of_ite h
  exact Ca.nat_Bits.calls _ _ _ _ _ hr0 hc0 (bits_pure h0)
theorem bit_giv {a1 r : Int} (hr0 : Kd.C (Kd.int .u64) w A0 l0.length l0) (hc0 : l0.length ≤ c0) (h : (if okN 262144 l0 ∧ a1 ≤ 9223372036854775807 then some (if a1 < 0 then 0 else ((nI l0 / 2 ^ a1.toNat % 2 : Nat) : Int)) else none) = some r) :
    Calls Tryz.prog 133 #[.slice A0 l0.length c0, .int .i64 a1] w fun e w' => e = .returned (.int .i64 r) ∧ Drawn0 w w' := by
  obtain ⟨h0, rfl⟩ := of_ite h
  exact Ca.nat_Bit.calls _ _ _ _ _ _ hr0 hc0 (bit_pure a1 h0.1 h0.2)
end
end Go.Proofs.YtdmglajfmfjmlaaGreat
namespace Go.Proofs.YtdmglajfmfjmlaaGreat
set_option linter.unusedSimpArgs false
set_option linter.unusedVariables false
set_option maxRecDepth 100000
open Go.RowKit
def mv (N : Option Addr) (k cn inv : Nat) : Value := .agg #[.slice N k cn, .int .u64 (inv : Int)]
theorem row_stepW {W S S' U Vt P q x cy o s cy' : Nat} (hn : S' + P * o = S + P * s) (h1 : x * q + o + cy = s + W * cy') (h : S + P * cy = U + x * Vt) : S' + P * W * cy' = U + x * (Vt + P * q) := by
  have e1 := congrArg (P * ·) h1
  simp only [Nat.mul_add] at e1 ⊢
  rw [← Nat.mul_assoc P W] at e1
  have e3 : P * (x * q) = x * (P * q) := by rw [Nat.mul_left_comm]
  rw [e3] at e1
  omega
theorem row_step {S S' U Vt P q x cy o s cy' : Nat} (hn : S' + P * o = S + P * s) (h1 : x * q + o + cy = s + 18446744073709551616 * cy') (h : S + P * cy = U + x * Vt) : S' + P * 18446744073709551616 * cy' = U + x * (Vt + P * q) := row_stepW hn h1 h
theorem row_endW {W S S' S'' P c' s o o1 x1 cy R : Nat} (hW : 0 < W) (hP : 0 < P) (hn : S' + P * o = S + P * s) (h1 : o + cy = s + W * c') (h : S + P * cy = R) (hn2 : S'' + P * W * o1 = S' + P * W * (o1 + c')) (hx : P * W * o1 ≤ S') (hR : R < P * W * W) : S'' = R ∧ o1 + c' < W := by
  have e1 := congrArg (P * ·) h1
  simp only [Nat.mul_add] at e1 hn2
  rw [← Nat.mul_assoc P W] at e1
  have hS : S'' = R := by omega
  refine ⟨hS, ?_⟩
  have : P * W * (o1 + c') < P * W * W := by rw [Nat.mul_add]; omega
  exact Nat.lt_of_mul_lt_mul_left this
theorem row_end {S S' S'' P c' s o o1 cy R : Nat} (hP : 0 < P) (hn : S' + P * o = S + P * s) (h1 : o + cy = s + 18446744073709551616 * c') (h : S + P * cy = R) (hn2 : S'' + P * 18446744073709551616 * o1 = S' + P * 18446744073709551616 * (o1 + c')) (hx : P * 18446744073709551616 * o1 ≤ S') (hR : R < P * 18446744073709551616 * 18446744073709551616) : S'' = R ∧ o1 + c' < 18446744073709551616 :=
  row_endW (x1 := 0) (by omega) hP hn h1 h hn2 hx hR
def RetT (g base nu cu : Nat) (w : World) (m : Nat) (e : Ending) (w' : World) : Prop :=
  ∃ us' : List Nat, e = .returned (.slice (some ⟨g, 0, none⟩) nu cu) ∧ Own .u64 23 w' base (some ⟨g, 0, none⟩) nu cu us' ∧ B64 us' ∧ w.grownBy w' (some g) ∧ nv us' = m
theorem grown_alloc (w : World) (r : Option Nat) (o : Obj) : w.grownBy (w.alloc o) r := by
  have b := (Below.refl w.heap.size w).alloc (Nat.le_refl _) o
  exact ⟨rfl, rfl, rfl, by simp, fun k hk _ => b.block k hk⟩
theorem cell_set_ne {w : World} {p q : Addr} (h : q.block ≠ p.block) (u : Value) : (w.setCell p u).cell? q = w.cell? q := World.cell?_of_block (Below.heap_setCell w p u q.block h)
theorem gd_le_nv {xs : List Nat} {j : Nat} (h : j < xs.length) : 18446744073709551616 ^ j * gd xs j ≤ nv xs := by
  have := nv_set 0 h
  omega
set_option maxHeartbeats 1000000 in
theorem row_any (w : World) {base g ct k cn d x inv : Nat} {N B : Option Addr} {ts ys : List Nat} (h : Own .u64 23 w base (some ⟨g, 0, none⟩) (k + 2) ct ts) (bt : B64 ts) (hv : Rd .u64 w B k d ys) (bv : B64 ys)
    (hne : ∀ ad, B = some ad → ad.block ≠ g) (hx : x < 18446744073709551616) (hk : k ≤ 1048576) (hfit : nv ts + x * nv ys < 18446744073709551616 ^ (k + 2)) (hg : g < w.heap.size) :
    Calls Tryz.prog 208 #[mv N k cn inv, .slice (some ⟨g, 0, none⟩) (k + 2) ct, .slice B k d, .int .u64 x] w (RetT g base (k + 2) ct w (nv ts + x * nv ys)) := by
  have H := Lib.hid h
  have BT := Lib.hid bt
  have HV := Lib.hid hv
  have BV := Lib.hid bv
  have HNE := Lib.hid hne
  have HFIT := Lib.hid hfit
  clear h bt hv bv hne hfit
  unfold mv
  go_enter Tryz.func208, Tryz.ntmps208
  go_wp2_with fail
  go_loopw [9, 19] (fun cv i wr => ∃ (t cy : Nat) (zs : List Nat), t ≤ k ∧ cy < 18446744073709551616 ∧ i = .int .i64 (t : Int) ∧ cv = .int .u64 (cy : Int) ∧ Own .u64 23 wr base (some ⟨g, 0, none⟩) (k + 2) ct zs ∧ B64 zs ∧ w.grownBy wr (some g) ∧ nv zs + 18446744073709551616 ^ t * cy = nv ts + x * nv (ys.take t) ∧ wr.cell? ⟨w.heap.size, 0, none⟩ = some (.slice N k cn)) (fun _ i _ => k - (intOf i).toNat)
  case atStart => exact ⟨0, 0, ts, by omega, by omega, rfl, rfl, H.out.below ((Below.refl _ _).alloc (Nat.le_refl _) _), BT.out, grown_alloc _ _ _, by simp [nv], ((Bk.new _ _ _).cell 0).trans rfl⟩
  case round =>
    obtain ⟨t, cy, zs, ht, hcy, rfl, rfl, how, bz, hgr, hinv, hbx⟩ := hrel
    have HI := Lib.hid hinv
    have HO := Lib.hid how
    have HG := Lib.hid hgr
    have HB := Lib.hid hbx
    clear hinv
    by_cases hlt : t < k
    · obtain ⟨ad, rfl, hb, hc⟩ := (HV.out.grown hgr HNE.out).form (by omega)
      have hxc := hc t hlt
      have hcell := how.cellAt (show t < k + 2 by omega)
      have hfr := how.frozenAt t
      have hgy := BV.out.gd t
      have hgo := bz.gd t
      obtain ⟨h, eh⟩ : ∃ h, x * gd ys t / 18446744073709551616 = h := ⟨_, rfl⟩
      obtain ⟨l, el⟩ : ∃ l, x * gd ys t % 18446744073709551616 = l := ⟨_, rfl⟩
      have hmul := YtdmglajfmfjmlaaGreat.bits_Mul64 x (gd ys t) hx hgy
      rw [eh, el] at hmul
      have hadd1 := run_add l cy 0 (by omega)
      obtain ⟨l1, e1⟩ : ∃ l1, (l + cy + 0) % 18446744073709551616 = l1 := ⟨_, rfl⟩
      obtain ⟨c1, e2⟩ : ∃ c1, (l + cy + 0) / 18446744073709551616 = c1 := ⟨_, rfl⟩
      rw [e1, e2] at hadd1
      have hadd2 := run_add (gd zs t) l1 0 (by omega)
      obtain ⟨s, e4⟩ : ∃ s, (gd zs t + l1 + 0) % 18446744073709551616 = s := ⟨_, rfl⟩
      obtain ⟨c2, e5⟩ : ∃ c2, (gd zs t + l1 + 0) / 18446744073709551616 = c2 := ⟨_, rfl⟩
      rw [e4, e5] at hadd2
      obtain ⟨hd, hc', hh1, hs', hc1, hc2⟩ := mul_digit (s := s) (c2 := c2) hx hgy hcy hgo eh el e1 e2 rfl (by rw [Nat.add_comm l1]; exact e4) (by rw [Nat.add_comm l1]; exact e5) rfl
      rw [Nat.add_right_comm] at hd
      have HD := Lib.hid hd
      have HMUL := Lib.hid hmul
      have hcu := (HO.out.rd).max
      have hcu2 := (HO.out.rd).cap
      clear hd hmul eh el e1 e2 e4 e5 hc hgy hgo how hgr hbx
      simp only [Int.natCast_zero] at hadd1 hadd2
      go_wp2_with fail
      refine (HMUL.out _).mono ?_
      rintro e w' ⟨rfl, rfl⟩
      go_wp2_with fail
      refine ⟨⟨t + 1, h + c1 + c2, zs.set t s, by omega, hc', by go_num, by go_num, HO.out.store t s, bz.set hs', grown_set HG.out _ _, ?_, (cell_set_ne (by simp; omega) _).trans HB.out⟩, by simp [intOf]; omega⟩
      rw [nv_take, Nat.pow_succ]
      exact row_step (nv_set s (by rw [HO.out.len]; omega)) HD.out HI.out
    · obtain rfl : k = t := by omega
      have hcell := how.cellAt (show k < k + 2 by omega)
      have hfr := how.frozenAt k
      have hadd := run_add (gd zs k) cy 0 (by omega)
      have hgo := bz.gd k
      obtain ⟨s, hs⟩ : ∃ s, (gd zs k + cy + 0) % 18446744073709551616 = s := ⟨_, rfl⟩
      obtain ⟨q, hq⟩ : ∃ q, (gd zs k + cy + 0) / 18446744073709551616 = q := ⟨_, rfl⟩
      rw [hs, hq] at hadd
      simp only [Int.natCast_zero] at hadd
      have hd : gd zs k + cy = s + 18446744073709551616 * q := by omega
      have hs64 : s < 18446744073709551616 := by rw [← hs]; exact Nat.mod_lt _ (by omega)
      have hl1 : k < zs.length := by rw [HO.out.len]; omega
      have h2 := HO.out.store k s
      have hcell2 := h2.cellAt (show k + 1 < k + 2 by omega)
      have hfr2 := h2.frozenAt (k + 1)
      have hl2 : k + 1 < (zs.set k s).length := by rw [h2.len]; omega
      have ee := HI.out
      rw [List.take_of_length_le (by rw [HV.out.len]; omega)] at ee
      have hend := row_end (Nat.pow_pos (n := k) (by omega)) (nv_set s hl1) hd ee (by have := nv_set (gd (zs.set k s) (k + 1) + q) hl2; rw [Nat.pow_succ] at this; exact this) (by have := gd_le_nv hl2; rw [Nat.pow_succ] at this; exact this) HFIT.out
      obtain ⟨hfin, hsm⟩ := hend
      have hbx2 : (wr.setCell ⟨g, k, none⟩ (.int .u64 (s : Int))).cell? ⟨w.heap.size, 0, none⟩ = some (.slice N k cn) := (cell_set_ne (by simp; omega) _).trans HB.out
      obtain ⟨o1, ho1⟩ : ∃ o1, gd (zs.set k s) (k + 1) = o1 := ⟨_, rfl⟩
      rw [ho1] at hcell2 hfin hsm
      have HF := Lib.hid hfin
      have HS2 := Lib.hid h2
      have hcu := (HO.out.rd).max
      have hcu2 := (HO.out.rd).cap
      clear how hgr hs hq hd hgo ee hfin h2 ho1 hl1 hl2
      go_wp2_with fail
      go_ret
      refine ⟨(zs.set k s).set (k + 1) (o1 + q), rfl, HS2.out.store (k + 1) (o1 + q), (bz.set hs64).set hsm, grown_set (grown_set HG.out _ _) _ _, HF.out⟩
end Go.Proofs.YtdmglajfmfjmlaaGreat
namespace Go.Proofs.YtdmglajfmfjmlaaGreat
set_option linter.unusedSimpArgs false
set_option linter.unusedVariables false
set_option maxRecDepth 100000
open Go.RowKit
def RetW (k m : Nat) (w : World) (e : Ending) (w' : World) : Prop :=
  ∃ (g : Nat) (us : List Nat), e = .returned (.slice (some ⟨g, 0, none⟩) k k) ∧ Own .u64 23 w' w.heap.size (some ⟨g, 0, none⟩) k k us ∧ B64 us ∧ nv us = m ∧ Below w.heap.size w w'
theorem RetW.lift {k m : Nat} {w w1 w' : World} {e : Ending} (h : RetW k m w1 e w') (hb : Below w.heap.size w w1) : RetW k m w e w' := by
  obtain ⟨g, us, h1, h2, h3, h4, h5⟩ := h
  exact ⟨g, us, h1, h2.lower hb.size, h3, h4, hb.trans (h5.mono hb.size)⟩
theorem nv_app (xs ys : List Nat) : nv (xs ++ ys) = nv xs + 18446744073709551616 ^ xs.length * nv ys := by
  induction xs with
  | nil => simp [nv]
  | cons x xs ih =>
    simp only [List.cons_append, nv, ih, List.length_cons, Nat.pow_succ, Nat.mul_add]
    rw [Nat.mul_comm (_ ^ _) 18446744073709551616, Nat.mul_assoc]
    omega
theorem nv_take_fit {xs : List Nat} {k : Nat} (h : nv xs < 18446744073709551616 ^ k) : nv (xs.take k) = nv xs := by
  rcases Nat.lt_or_ge k xs.length with hl | hl
  · have e := nv_app (xs.take k) (xs.drop k)
    rw [List.take_append_drop, List.length_take, Nat.min_eq_left (by omega)] at e
    rcases Nat.eq_zero_or_pos (nv (xs.drop k)) with h0 | h0
    · rw [h0] at e; simp at e; exact e.symm
    · have := Nat.mul_le_mul_left (18446744073709551616 ^ k) h0
      omega
  · rw [List.take_of_length_le hl]
def widen (k : Nat) (xs : List Nat) : List Nat := splice (List.replicate k 0) 0 (xs.take k)
theorem widen_len (k : Nat) (xs : List Nat) : (widen k xs).length = k := by simp [widen, splice]; omega
theorem widen_b64 {k : Nat} {xs : List Nat} (h : B64 xs) : B64 (widen k xs) := by
  intro x hx
  simp only [widen, splice, List.take_zero, List.nil_append, List.mem_append, Nat.zero_add] at hx
  rcases hx with hx | hx
  · exact h x (List.mem_of_mem_take hx)
  · have := List.mem_of_mem_drop hx
    rw [List.mem_replicate] at this
    omega
theorem widen_nv {k : Nat} {xs : List Nat} (h : nv xs < 18446744073709551616 ^ k) : nv (widen k xs) = nv xs := by
  simp only [widen, splice, List.take_zero, List.nil_append, Nat.zero_add, List.drop_replicate]
  rw [nv_app, nv_replicate, Nat.mul_zero, Nat.add_zero]
  exact nv_take_fit h
theorem run_copy_rd (w : World) {g k n c : Nat} {A : Option Addr} {xs zs : List Nat} (hb : Bk w g 23 (va .u64 zs)) (hz : zs.length = k) (h : Rd .u64 w A n c xs) :
    ∃ w', (Builtin.copy_ #[22, 22] 3 #[.slice (some ⟨g, 0, none⟩) k k, .slice A n c]).run Tryz.prog w = .ok (.int .i64 ((min n k : Nat) : Int)) w' ∧ Bk w' g 23 (va .u64 (splice zs 0 (xs.take k))) ∧ ∀ B, B ≤ g → Below B w w' := by
  obtain ⟨i0, hi0, hz0, hz1, hz2⟩ := info_parts u64_info
  have hsz : (Tryz.prog.info? 23).map (·.size) = some 1 := by rw [hi0]; simp [hz1]
  have hcl : (xs.take k).length = min n k := by rw [List.length_take, h.len]; omega
  rcases Nat.eq_zero_or_pos (min n k) with h0 | h0
  · refine ⟨w, ?_, ?_, fun B _ => Below.refl _ _⟩
    · rw [run_copy_none (P := Tryz.prog) w 22 22 3 23 _ _ k k n c Tryz.underlying22 hsz h0, h0]; rfl
    · have : xs.take k = [] := List.eq_nil_of_length_eq_zero (by omega)
      rw [this]; simpa [splice] using hb
  · obtain ⟨ad, rfl, hlt, hc⟩ := h.form (by omega)
    have hcs : ∀ j v, (vs .u64 (xs.take k))[j]? = some v → w.cell? (ad.add j) = some v := fun j v hv => by
      refine h.cells rfl j v ?_
      rw [vs_get] at hv ⊢
      rw [List.getElem?_take] at hv
      split at hv
      · exact hv
      · simp at hv
    have hrun := run_copy_row (P := Tryz.prog) w 22 22 3 23 g 0 k k ad n c (va .u64 zs) 23 (vs .u64 (xs.take k)) Tryz.underlying22 hsz hb (by rw [vs_length, hcl]) hcs (by rw [vs_length, va_size]; omega) (vs_one _ _)
    refine ⟨_, hrun.trans (by rw [vs_length, hcl]; rfl), ?_, fun B hB => below_setRow (Below.refl _ _) hB _⟩
    · unfold Bk
      rw [setRow_heap w g _ _ 23 _ hb]
      simp [va, splice, vs]
      have := h.len
      omega
set_option maxHeartbeats 1000000 in
theorem wide_any (w : World) {k cn n c inv m : Nat} {N A : Option Addr} (h : NA w A n c m) (hk : k ≤ 4194304) (hm : m < 18446744073709551616 ^ k) :
    Calls Tryz.prog 194 #[mv N k cn inv, .slice A n c] w (RetW k m w) := by
  obtain ⟨xs, h, bx, rfl⟩ := h
  have H := Lib.hid h
  have BX := Lib.hid bx
  have HM := Lib.hid hm
  have hmk := fun w => run_mk k hk w
  clear h bx hm
  unfold mv
  go_enter Tryz.func194, Tryz.ntmps194
  go_wp2_with fail
  obtain ⟨w1, hw1⟩ : ∃ w1, w1 = ((w.alloc (.cells #[.slice N k cn, .int .u64 inv] 162)).alloc (.cells (va .u64 (List.replicate k 0)) 23)) := ⟨_, rfl⟩
  have hbl : Below w.heap.size w w1 := by rw [hw1]; (repeat (first | (with_reducible exact Below.refl _ _) | (with_reducible assumption) | (with_reducible refine Below.drew ?_) | (with_reducible refine below_drewN ?_ _) | ((with_reducible refine Below.setCell ?_ (p := ⟨_, _, _⟩) ?_ _); rotate_left; (simp <;> omega)) | ((with_reducible refine Below.alloc ?_ ?_ _); rotate_left; (simp <;> omega)) | ((with_reducible refine Below.trans ?_ (Below.mono (by with_reducible assumption) ?_)); rotate_left; (simp <;> omega))))
  have hbk : Bk w1 (w.heap.size + 1) 23 (va .u64 (List.replicate k 0)) := by
    have := Bk.new (w.alloc (.cells #[.slice N k cn, .int .u64 inv] 162)) 23 (va .u64 (List.replicate k 0))
    rw [hw1]; simpa using this
  obtain ⟨w2, hrun, hb2, hbl2⟩ := run_copy_rd w1 hbk (k := k) (by simp) (H.out.below hbl)
  rw [← hw1, hrun]
  have HB := Lib.hid hb2
  have HBL := Lib.hid (hbl.trans (hbl2 w.heap.size (by omega)))
  clear hrun hb2 hbl2 hbk hbl hw1
  go_wp2_with fail
  go_ret
  exact ⟨w.heap.size + 1, widen k xs, rfl, Own.of_bk HB.out (by omega) (widen_len _ _) (by omega), widen_b64 BX.out, widen_nv HM.out, HBL.out⟩
end Go.Proofs.YtdmglajfmfjmlaaGreat
namespace Go.Proofs.YtdmglajfmfjmlaaGreat
set_option linter.unusedSimpArgs false
set_option linter.unusedVariables false
set_option maxRecDepth 100000
open Go.RowKit Go.Proofs.YtdmglajfmfjmlaaGreatW.PrintWords Go.Proofs.YtdmglajfmfjmlaaGreatW.PrintLast Go.Proofs.YtdmglajfmfjmlaaGreatW.PrintMore
def cI (xs : List Nat) : List Int := xs.map fun (x : Nat) => (x : Int)
theorem cI_length (xs : List Nat) : (cI xs).length = xs.length := by simp [cI]
theorem cI_toN {l : List Int} (h : ∀ x ∈ l, 0 ≤ x) : cI (toN l) = l := by
  simp only [cI, toN, List.map_map]
  conv => rhs; rw [← List.map_id l]
  refine List.map_congr_left fun x hx => ?_
  have := h x hx
  simp only [Function.comp, id]; omega
theorem toN_cI (xs : List Nat) : toN (cI xs) = xs := by simp [cI, toN, Function.comp_def]
theorem C_of_Rd {k : IntKind} {w : World} {A : Option Addr} {n c : Nat} {xs : List Nat} (h : Rd k w A n c xs) : Kd.C (Kd.int k) w A (cI xs).length (cI xs) := by
  refine Kd.C_of_reads (d := (0 : Int)) ⟨rfl, by rw [cI_length, h.len]; exact h.max, fun hn => ?_⟩
  rw [cI_length, h.len] at hn
  obtain ⟨ad, e, _, hc⟩ := h.form hn
  refine ⟨ad, e, fun j hj => ?_⟩
  rw [cI_length, h.len] at hj
  rw [hc j hj]
  have : (cI xs).getD j 0 = ((gd xs j : Nat) : Int) := by
    rw [List.getD_eq_getElem?_getD]; unfold cI
    rw [List.getElem?_map, gd_get (by rw [h.len]; exact hj)]; rfl
  rw [this]
theorem Own.of_R {k : IntKind} {e : Nat} {w : World} {base : Nat} {ok : Nat → Prop} {v : Value} {l : List Int} (h : Kd.R (Kd.int k) e w base ok v l) (h0 : ∀ x ∈ l, 0 ≤ x) : ∃ A c, v = .slice A l.length c ∧ Own k e w base A l.length c (toN l) := by
  obtain ⟨A, c, rfl⟩ := Kd.R_slice h
  refine ⟨A, c, rfl, ?_⟩
  have ho := Kd.own_of_R h
  have e1 : encs (Value.int k) l = vs k (toN l) := by
    unfold encs vs
    rw [show toN l = l.map Int.toNat from rfl, List.map_map]
    refine List.map_congr_left fun x hx => ?_
    have := h0 x hx
    simp only [Function.comp]; congr 1; omega
  rw [e1] at ho
  exact ho
theorem cI_ok {xs : List Nat} {m : Nat} (hb : B64 xs) (hl : xs.length ≤ m) : okN m (cI xs) := by
  refine ⟨by rw [cI_length]; exact hl, fun x hx => ?_⟩
  simp only [cI, List.mem_map] at hx
  obtain ⟨y, hy, rfl⟩ := hx
  have := hb y hy
  omega
theorem nI_cI (xs : List Nat) : nI (cI xs) = nv xs := by unfold nI; rw [toN_cI]
theorem bits_any (w : World) {A : Option Addr} {n c x : Nat} (hx : NA w A n c x) (hn : n ≤ 262144) (hc : n ≤ c) :
    Calls Tryz.prog 74 #[.slice A n c] w fun e w' => e = .returned (.int .i64 ((blen x : Nat) : Int)) ∧ Below w.heap.size w w' := by
  obtain ⟨xs, h, b, rfl⟩ := hx
  have hl := h.len
  have := bits_giv (A0 := A) (c0 := c) (l0 := cI xs) (w := w) (C_of_Rd h) (by rw [cI_length, hl]; exact hc) (by rw [if_pos (cI_ok b (by omega)), nI_cI])
  rwa [cI_length, hl] at this
theorem bit_any (w : World) {A : Option Addr} {n c x : Nat} (i : Nat) (hx : NA w A n c x) (hn : n ≤ 262144) (hi : i ≤ 9223372036854775807) (hc : n ≤ c) :
    Calls Tryz.prog 133 #[.slice A n c, .int .i64 i] w fun e w' => e = .returned (.int .i64 ((x / 2 ^ i % 2 : Nat) : Int)) ∧ Drawn0 w w' := by
  obtain ⟨xs, h, b, rfl⟩ := hx
  have hl := h.len
  have := bit_giv (A0 := A) (c0 := c) (l0 := cI xs) (w := w) (a1 := (i : Int)) (r := ((nv xs / 2 ^ i % 2 : Nat) : Int)) (C_of_Rd h) (by rw [cI_length, hl]; exact hc) (by rw [if_pos ⟨cI_ok b (by omega), by omega⟩, nI_cI, if_neg (by omega), Int.toNat_natCast])
  rwa [cI_length, hl] at this
end Go.Proofs.YtdmglajfmfjmlaaGreat
namespace Go.Proofs.YtdmglajfmfjmlaaGreat
set_option linter.unusedSimpArgs false
set_option linter.unusedVariables false
set_option maxRecDepth 100000
open Go.RowKit
set_option maxHeartbeats 400000 in
theorem mod_any (w : World) {A B : Option Addr} {n c m d x y : Nat} (hx : NA w A n c x) (hy : NA w B m d y) (hn : n ≤ 262144) (hm : m ≤ 262144) :
    Calls Tryz.prog 93 #[.slice A n c, .slice B m d] w (RetNE (if y = 0 then 0 else x % y) (if y = 0 then 11 else 0) w) := by
  have hdiv := div_any w hx hy hn hm
  generalize (if y = 0 then 0 else x % y) = r at hdiv ⊢
  generalize (if y = 0 then 0 else x / y) = q at hdiv
  generalize (if y = 0 then (11 : Int) else 0) = er at hdiv ⊢
  have HD := Lib.hid hdiv
  clear hx hy hdiv
  go_enter Tryz.func93, Tryz.ntmps93
  go_wp2_with fail
  refine HD.out.mono ?_
  rintro e w' ⟨A1, c1, A2, c2, rfl, h1, h2, hb, -⟩
  have HO := Lib.hid h2
  have HB := Lib.hid hb
  clear h1 h2 hb
  go_wp2_with fail
  go_ret2
  exact ⟨A2, c2, rfl, HO.out, HB.out⟩
set_option maxHeartbeats 400000 in
theorem shifted_any (w : World) {A N : Option Addr} {n c k cn inv x m : Nat} (hx : NA w A n c x) (hN : NA w N k cn m) (hm : 0 < m) (hn : n ≤ 4096) (hk : k ≤ 1024) :
    Calls Tryz.prog 192 #[mv N k cn inv, .slice A n c] w (RetW k (x * 18446744073709551616 ^ k % m) w) := by
  have hfit : x * 18446744073709551616 ^ k % m < 18446744073709551616 ^ k := by
    have h1 := Nat.mod_lt (x * 18446744073709551616 ^ k) hm
    obtain ⟨xs, h, b, rfl⟩ := hN
    have h2 := nv_lt b
    rw [h.len] at h2
    omega
  have hsh : shiftN x ((64 : Int) * (k : Int)) = x * 18446744073709551616 ^ k := by
    unfold shiftN
    rw [if_pos (by omega), show (min ((64 : Int) * (k : Int)) 65536).toNat = 64 * k by omega, Nat.pow_mul]
  have HX := Lib.hid hx
  have HN := Lib.hid hN
  have HFIT := Lib.hid hfit
  have HSH := Lib.hid hsh
  clear hx hN hfit hsh
  unfold mv
  go_enter Tryz.func192, Tryz.ntmps192
  go_wp2_with fail
  have S0 : (w.alloc (.cells #[.slice N k cn, .int .u64 inv] 162)).drew.cell? ⟨w.heap.size, 0, none⟩ = some (.slice N k cn) := ((Bk.new w 162 #[.slice N k cn, .int .u64 inv]).cell 0).trans rfl
  have B0 : Below w.heap.size w (w.alloc (.cells #[.slice N k cn, .int .u64 inv] 162)).drew := by (repeat (first | (with_reducible exact Below.refl _ _) | (with_reducible assumption) | (with_reducible refine Below.drew ?_) | (with_reducible refine below_drewN ?_ _) | ((with_reducible refine Below.setCell ?_ (p := ⟨_, _, _⟩) ?_ _); rotate_left; (simp <;> omega)) | ((with_reducible refine Below.alloc ?_ ?_ _); rotate_left; (simp <;> omega)) | ((with_reducible refine Below.trans ?_ (Below.mono (by with_reducible assumption) ?_)); rotate_left; (simp <;> omega))))
  have hs0 : (w.alloc (.cells #[.slice N k cn, .int .u64 inv] 162)).drew.heap.size = w.heap.size + 1 := by simp
  have hl : ln (x * 18446744073709551616 ^ k) ≤ n + k := by
    rw [ln_le, Nat.pow_add]
    obtain ⟨xs, h, b, rfl⟩ := HX.out
    have h2 := nv_lt b
    rw [h.len] at h2
    exact Nat.mul_lt_mul_of_pos_right h2 (Nat.pow_pos (by omega))
  have hshift := shift_any (A := A) (n := n) (c := c) (x := x) _ ((64 : Int) * (k : Int)) (HX.out.below B0) (by omega)
  have hmod := fun W A1 c1 h1 h2 => mod_any (A := A1) (B := N) (n := ln (x * 18446744073709551616 ^ k)) (c := c1) (m := k) (d := cn) (x := x * 18446744073709551616 ^ k) (y := m) W h1 h2 (by omega) (by omega)
  rw [if_neg (by omega), if_neg (by omega)] at hmod
  rw [HSH.out] at hshift
  have hfit := HFIT.out
  obtain ⟨z, hz⟩ : ∃ z, x * 18446744073709551616 ^ k = z := ⟨_, rfl⟩
  rw [hz] at hshift hmod hl hfit
  have HZ := Lib.hid hz
  clear hz
  have HF2 := Lib.hid hfit
  clear hfit
  have hwrap : IntKind.i64.wrap ((64 : Int) * (k : Int)) = 64 * (k : Int) := IntWalk.i64_in _ (by omega)
  have HS := Lib.hid hshift
  have HM := Lib.hid hmod
  clear hshift hmod
  go_region_held3 (fun w' => w'.cell? ⟨w.heap.size, 0, none⟩ = some (.slice N k cn))
    (with_reducible assumption)
    ((first | (go_at_call 164; refine HS.out.mono ?_; rintro e w1 ⟨A1, c1, rfl, ho1, hb1⟩; rw [hs0] at hb1; have S1 := (hb1.cell (p := ⟨w.heap.size, 0, none⟩) (by simp)).trans S0) | (go_at_call 93; refine (HM.out _ A1 c1 ho1.na ((HN.out.below B0).below (hb1.mono (by omega)))).mono ?_; rintro e w2 ⟨A2, c2, rfl, ho2, hb2⟩; have S2 := (hb2.cell (p := ⟨w.heap.size, 0, none⟩) (by have := hb1.size; simp; omega)).trans S1)))
  have T0 : (w.alloc (.cells #[.slice N k cn, .int .u64 inv] 162)).drew.cell? ⟨w.heap.size, 1, none⟩ = some (.int .u64 inv) := ((Bk.new w 162 #[.slice N k cn, .int .u64 inv]).cell 1).trans rfl
  have hB2 := hb1.trans (hb2.mono (Nat.le_trans (by simp) hb1.size))
  have T2 := (hB2.cell (p := ⟨w.heap.size, 1, none⟩) (by simp)).trans T0
  have HB := Lib.hid (B0.trans (hB2.mono (by omega)))
  have HO := Lib.hid ho2
  have hwide := wide_any (inv := inv) (cn := cn) (N := N) w2 ho2.na (show k ≤ 4194304 by omega) HF2.out
  unfold mv at hwide
  have HW := Lib.hid hwide
  clear hwide S0 S1 T0 hB2 hb1 hb2 ho1 ho2 B0 hs0
  go_wp2_with fail
  refine HW.out.mono ?_
  rintro e w3 h
  obtain ⟨g, us, rfl, ho, b, hv, hb⟩ := h.lift HB.out
  clear h
  go_wp2_with fail
  go_ret
  exact ⟨g, us, rfl, ho, b, by rw [HZ.out]; exact hv, hb⟩
end Go.Proofs.YtdmglajfmfjmlaaGreat
namespace Go.Proofs.YtdmglajfmfjmlaaGreat
set_option linter.unusedSimpArgs false
set_option linter.unusedVariables false
set_option maxRecDepth 100000
open Go.RowKit
theorem inv_alg (n x p W a b c : Int) (h : n * x - 1 = p * a + W * b) : n * (x * (2 - n * x) + W * c) - 1 = p * p * (-(a * a)) + W * (-(2 * p * a * b + W * b * b) + n * c) := by
  have e : n * (x * (2 - n * x) + W * c) - 1 = -((n * x - 1) * (n * x - 1)) + W * (n * c) := by grind
  rw [e, h]; grind
def Inv2 (n : Int) (i : Nat) (x : Int) : Prop := ∃ a b : Int, n * x - 1 = 2 ^ (3 * 2 ^ i) * a + 18446744073709551616 * b
theorem Inv2.start {n : Int} (h : n % 2 = 1) : Inv2 n 0 n := by
  obtain ⟨m, hm⟩ : ∃ m, n = 2 * m + 1 := ⟨n / 2, by omega⟩
  have e : m * (m + 1) % 2 = 0 := by
    rcases Int.emod_two_eq m with h | h
    · rw [Int.mul_emod, h]; simp
    · rw [Int.mul_emod, show (m + 1) % 2 = 0 by omega]; simp
  refine ⟨m * (m + 1) / 2, 0, ?_⟩
  have e2 : m * (m + 1) = 2 * (m * (m + 1) / 2) := by omega
  subst hm
  rw [show (2 : Int) ^ (3 * 2 ^ 0) = 8 from rfl]
  generalize m * (m + 1) / 2 = q at *
  grind
theorem Inv2.next {n x : Int} {i : Nat} (h : Inv2 n i x) (c : Int) : Inv2 n (i + 1) (x * (2 - n * x) + 18446744073709551616 * c) := by
  obtain ⟨a, b, h⟩ := h
  unfold Inv2
  rw [show 3 * 2 ^ (i + 1) = 3 * 2 ^ i + 3 * 2 ^ i by rw [Nat.pow_succ]; omega, Int.pow_add]
  exact ⟨_, _, inv_alg n x _ _ a b c h⟩
theorem Inv2.done {n x : Int} (h : Inv2 n 6 x) : (n * x - 1) % 18446744073709551616 = 0 := by
  obtain ⟨a, b, h⟩ := h
  rw [h, show (2 : Int) ^ (3 * 2 ^ 6) = 18446744073709551616 * 340282366920938463463374607431768211456 by decide +kernel, Int.mul_assoc, ← Int.mul_add]
  exact Int.mul_emod_right _ _
theorem Inv2.step {n x : Int} {i : Nat} (h : Inv2 n i x) : Inv2 n (i + 1) (IntKind.u64.wrap (x * IntKind.u64.wrap (2 - IntKind.u64.wrap (n * x)))) := by
  rw [IntKind.wrap_u64, IntKind.wrap_u64, IntKind.wrap_u64]
  obtain ⟨c1, e1⟩ : ∃ c, (n * x) % 18446744073709551616 = n * x + 18446744073709551616 * c := ⟨-(n * x / 18446744073709551616), by omega⟩
  rw [e1]
  obtain ⟨c2, e2⟩ : ∃ c, (2 - (n * x + 18446744073709551616 * c1)) % 18446744073709551616 = 2 - n * x + 18446744073709551616 * c := ⟨-c1 - ((2 - (n * x + 18446744073709551616 * c1)) / 18446744073709551616), by omega⟩
  rw [e2]
  obtain ⟨c3, e3⟩ : ∃ c, (x * (2 - n * x + 18446744073709551616 * c2)) % 18446744073709551616 = x * (2 - n * x) + 18446744073709551616 * c := by
    refine ⟨x * c2 - (x * (2 - n * x + 18446744073709551616 * c2)) / 18446744073709551616, ?_⟩
    have := Int.emod_def (x * (2 - n * x + 18446744073709551616 * c2)) 18446744073709551616
    rw [this]
    generalize (x * (2 - n * x + 18446744073709551616 * c2)) / 18446744073709551616 = y
    grind
  rw [e3]
  exact h.next c3
def MInv (n0 inv : Nat) : Prop := inv < 18446744073709551616 ∧ (n0 * inv + 1) % 18446744073709551616 = 0
theorem Inv2.minv {n : Nat} {x : Nat} (h : Inv2 (n : Int) 6 (x : Int)) (hx : x < 18446744073709551616) : ∃ inv : Nat, IntKind.u64.wrap (-(x : Int)) = (inv : Int) ∧ MInv n inv := by
  have hd := h.done
  refine ⟨(18446744073709551616 - x) % 18446744073709551616, by rw [IntKind.wrap_u64]; omega, Nat.mod_lt _ (by omega), ?_⟩
  rcases Nat.eq_zero_or_pos x with h0 | h0
  · subst h0; simp at hd
  · rw [Nat.mod_eq_of_lt (show 18446744073709551616 - x < 18446744073709551616 by omega), Nat.mul_sub]
    have : n * x ≤ n * 18446744073709551616 := Nat.mul_le_mul_left _ (by omega)
    have e : (n : Int) * (x : Int) = ((n * x : Nat) : Int) := by push_cast; rfl
    rw [e] at hd
    generalize n * x = p at *
    omega
set_option maxHeartbeats 400000 in
theorem open_any (w : World) {N : Option Addr} {k cn : Nat} {xs : List Nat} (hN : Rd .u64 w N k cn xs) (b : B64 xs) (hk : 0 < k) (ho : gd xs 0 % 2 = 1) :
    Calls Tryz.prog 191 #[.slice N k cn] w fun e w' => ∃ inv : Nat, e = .returned (mv N k cn inv) ∧ MInv (gd xs 0) inv ∧ Below w.heap.size w w' := by
  have hm := hN.max
  have hcp := hN.cap
  obtain ⟨ad, rfl, hb, hc⟩ := hN.form hk
  have hc0 : w.cell? ad = some (.int .u64 ((gd xs 0 : Nat) : Int)) := by have := hc 0 hk; rwa [Addr.add_zero'] at this
  have hg := b.gd 0
  obtain ⟨n0, hn0⟩ : ∃ n0, gd xs 0 = n0 := ⟨_, rfl⟩
  rw [hn0] at hc0 hg ho
  rw [hn0]
  have HS := Lib.hid (Inv2.start (n := (n0 : Int)) (by omega))
  clear hc hn0 hN b
  unfold mv
  go_enter Tryz.func191, Tryz.ntmps191
  go_wp2_with fail
  go_loopw [3, 7] (fun xv i wr => ∃ (j x : Nat), j ≤ 6 ∧ x < 18446744073709551616 ∧ i = .int .i64 (j : Int) ∧ xv = .int .u64 (x : Int) ∧ Inv2 (n0 : Int) j (x : Int) ∧ Below w.heap.size w wr ∧ Bk wr w.heap.size 162 #[.slice none 0 0, .int .u64 0]) (fun _ i _ => 6 - (intOf i).toNat)
  case atStart => exact ⟨0, n0, by omega, hg, rfl, rfl, HS.out, by (repeat (first | (with_reducible exact Below.refl _ _) | (with_reducible assumption) | (with_reducible refine Below.drew ?_) | (with_reducible refine below_drewN ?_ _) | ((with_reducible refine Below.setCell ?_ (p := ⟨_, _, _⟩) ?_ _); rotate_left; (simp <;> omega)) | ((with_reducible refine Below.alloc ?_ ?_ _); rotate_left; (simp <;> omega)) | ((with_reducible refine Below.trans ?_ (Below.mono (by with_reducible assumption) ?_)); rotate_left; (simp <;> omega)))), Bk.new _ _ _⟩
  case round =>
    obtain ⟨j, x, hj, hx, rfl, rfl, hinv, hbl, bk⟩ := hrel
    by_cases hlt : j < 6
    · have hn := hinv.step
      have hr : ∃ y : Nat, y < 18446744073709551616 ∧ IntKind.u64.wrap ((x : Int) * IntKind.u64.wrap (2 - IntKind.u64.wrap ((n0 : Int) * (x : Int)))) = (y : Int) := by
        generalize (x : Int) * IntKind.u64.wrap (2 - IntKind.u64.wrap ((n0 : Int) * (x : Int))) = z
        refine ⟨(z % 18446744073709551616).toNat, by omega, by rw [IntKind.wrap_u64]; omega⟩
      obtain ⟨y, hy, hyw⟩ := hr
      rw [hyw] at hn
      have HN := Lib.hid hn
      have hcell := (hbl.cell (p := ad) hb).trans hc0
      clear hn hinv
      have BK := Lib.hid bk
      clear bk
      go_wp2_with fail
      refine ⟨⟨j + 1, y, by omega, hy, by go_num, rfl, HN.out, hbl, BK.out⟩, by simp [intOf]; omega⟩
    · obtain rfl : j = 6 := by omega
      obtain ⟨inv, hw, hmi⟩ := hinv.minv hx
      have HM := Lib.hid hmi
      have q0 := (bk.cell 0).trans (show _ = some (Value.slice none 0 0) from rfl)
      have f0 := bk.frozen 0
      have bk1 := bk.set 0 (.slice (some ad) k cn)
      have q1 := (bk1.cell 1).trans (show _ = some (Value.int .u64 0) from rfl)
      have f1 := bk1.frozen 1
      have bk2 := bk1.set 1 (.int .u64 inv)
      have r0 := (bk2.cell 0).trans (show _ = some (Value.slice (some ad) k cn) from rfl)
      have r1 := (bk2.cell 1).trans (show _ = some (Value.int .u64 inv) from rfl)
      have hb2 : Below w.heap.size w ((wr.setCell ⟨w.heap.size, 0, none⟩ (.slice (some ad) k cn)).setCell ⟨w.heap.size, 1, none⟩ (.int .u64 inv)) := by (repeat (first | (with_reducible exact Below.refl _ _) | (with_reducible assumption) | (with_reducible refine Below.drew ?_) | (with_reducible refine below_drewN ?_ _) | ((with_reducible refine Below.setCell ?_ (p := ⟨_, _, _⟩) ?_ _); rotate_left; (simp <;> omega)) | ((with_reducible refine Below.alloc ?_ ?_ _); rotate_left; (simp <;> omega)) | ((with_reducible refine Below.trans ?_ (Below.mono (by with_reducible assumption) ?_)); rotate_left; (simp <;> omega))))
      have HB := Lib.hid hb2
      clear hmi hinv bk bk1 bk2 hb2
      go_wp2_with fail
      refine bodyPost_ret (v := .agg #[.slice (some ad) k cn, .int .u64 inv]) (by simp [results, Tryz.results191, go_sem, r0, r1]) rfl ⟨inv, rfl, HM.out, HB.out⟩
end Go.Proofs.YtdmglajfmfjmlaaGreat
namespace Go.Proofs.YtdmglajfmfjmlaaGreat
set_option linter.unusedSimpArgs false
set_option linter.unusedVariables false
set_option maxRecDepth 100000
open Go.RowKit
theorem gd0_mod {xs : List Nat} (h : B64 xs) : gd xs 0 = nv xs % 18446744073709551616 := by
  cases xs with
  | nil => rfl
  | cons x xs =>
    have hx : x < 18446744073709551616 := h x (by simp)
    have : gd (x :: xs) 0 = x := by simp [gd]
    rw [this]; simp only [nv]; omega
theorem nv_drop1 {xs : List Nat} (h : B64 xs) : nv (xs.drop 1) = nv xs / 18446744073709551616 := by
  cases xs with
  | nil => rfl
  | cons x xs =>
    have hx : x < 18446744073709551616 := h x (by simp)
    simp only [nv, List.drop_succ_cons, List.drop_zero]; omega
theorem mont_alg (W T1 t0 x1 u inv x2 m n0 x3 x4 : Int) (h1 : T1 = t0 + W * x1) (h2 : u = t0 * inv - W * x2) (h3 : m = n0 + W * x3) (h4 : n0 * inv + 1 = W * x4) :
    T1 + u * m = W * (t0 * x4 + x1 + t0 * inv * x3 - x2 * n0 - W * x2 * x3) := by
  subst h1 h2 h3
  have : t0 * (n0 * inv + 1) = t0 * (W * x4) := by rw [h4]
  grind
theorem mont_zero {T1 inv m : Nat} (hi : MInv (m % 18446744073709551616) inv) : (T1 + (T1 % 18446744073709551616 * inv % 18446744073709551616) * m) % 18446744073709551616 = 0 := by
  obtain ⟨_, h4⟩ := hi
  obtain ⟨n0, hn0⟩ : ∃ n0, m % 18446744073709551616 = n0 := ⟨_, rfl⟩
  obtain ⟨t0, ht0⟩ : ∃ t0, T1 % 18446744073709551616 = t0 := ⟨_, rfl⟩
  rw [hn0] at h4
  rw [ht0]
  obtain ⟨u, hu⟩ : ∃ u, t0 * inv % 18446744073709551616 = u := ⟨_, rfl⟩
  rw [hu]
  have e2 : ((t0 * inv : Nat) : Int) = (t0 : Int) * (inv : Int) := by push_cast; rfl
  have e3 : ((n0 * inv : Nat) : Int) = (n0 : Int) * (inv : Int) := by push_cast; rfl
  generalize ha : t0 * inv = p at *
  generalize hb : n0 * inv = r at *
  have h := mont_alg 18446744073709551616 (T1 : Int) (t0 : Int) ((T1 / 18446744073709551616 : Nat) : Int) (u : Int) (inv : Int) ((p / 18446744073709551616 : Nat) : Int) (m : Int) (n0 : Int) ((m / 18446744073709551616 : Nat) : Int) (((r + 1) / 18446744073709551616 : Nat) : Int)
    (by omega) (by rw [← e2]; omega) (by omega) (by rw [← e3]; omega)
  have e4 : ((T1 + u * m : Nat) : Int) = (T1 : Int) + (u : Int) * (m : Int) := by push_cast; rfl
  rw [← e4] at h
  generalize T1 + u * m = S at *
  generalize (t0 : Int) * _ + _ + _ - _ - _ = Z at h
  omega
def MP (m b A Wi T : Nat) : Prop := T < 2 * m ∧ ∃ q, T * Wi = A * b + q * m
theorem MP.zero {m b : Nat} (hm : 0 < m) : MP m b 0 1 0 := ⟨by omega, 0, by simp⟩
theorem mp_alg (W T T2 Wi a b A q u m T' : Nat) (h : T * Wi = A * b + q * m) (h2 : T2 = T + a * b + u * m) (h3 : T2 = W * T') : T' * (Wi * W) = (A + Wi * a) * b + (q + u * Wi) * m := by
  have e : T' * (Wi * W) = (W * T') * Wi := by rw [Nat.mul_comm Wi W, ← Nat.mul_assoc, Nat.mul_comm T' W]
  rw [e, ← h3, h2]
  grind
theorem MP.next {m b A Wi T a inv : Nat} (h : MP m b A Wi T) (hb : b < m) (ha : a < 18446744073709551616) (hi : MInv (m % 18446744073709551616) inv) :
    MP m b (A + Wi * a) (Wi * 18446744073709551616) ((T + a * b + ((T + a * b) % 18446744073709551616 * inv % 18446744073709551616) * m) / 18446744073709551616) ∧
      T + a * b + ((T + a * b) % 18446744073709551616 * inv % 18446744073709551616) * m < 2 * 18446744073709551616 * m ∧ T + a * b < 18446744073709551616 * m + m := by
  obtain ⟨hT, q, hq⟩ := h
  have h0 := mont_zero (T1 := T + a * b) hi
  obtain ⟨u, hu⟩ : ∃ u, (T + a * b) % 18446744073709551616 * inv % 18446744073709551616 = u := ⟨_, rfl⟩
  have hub : u ≤ 18446744073709551615 := by rw [← hu]; have := Nat.mod_lt ((T + a * b) % 18446744073709551616 * inv) (show 0 < 18446744073709551616 by omega); omega
  rw [hu] at h0 ⊢
  have m1 : u * m ≤ 18446744073709551615 * m := Nat.mul_le_mul_right _ hub
  have m2 : a * b ≤ 18446744073709551615 * m := Nat.mul_le_mul (by omega) (Nat.le_of_lt hb)
  obtain ⟨S, hS⟩ : ∃ S, T + a * b + u * m = S := ⟨_, rfl⟩
  rw [hS] at h0 ⊢
  have hS2 : S = 18446744073709551616 * (S / 18446744073709551616) := by omega
  refine ⟨⟨by omega, q + u * Wi, mp_alg 18446744073709551616 T S Wi a b A q u m _ hq hS.symm hS2⟩, by omega, by omega⟩
def MontR (m k p v : Nat) : Prop := v < m ∧ v * 18446744073709551616 ^ k % m = p % m
theorem MP.done {m b A T k : Nat} (h : MP m b A (18446744073709551616 ^ k) T) : MontR m k (A * b) (if T < m then T else T - m) := by
  obtain ⟨hT, q, hq⟩ := h
  split
  · refine ⟨‹_›, ?_⟩
    rw [hq, Nat.add_mul_mod_self_right]
  · refine ⟨by omega, ?_⟩
    have : (T - m) * 18446744073709551616 ^ k + 18446744073709551616 ^ k * m = A * b + q * m := by
      rw [← hq, Nat.sub_mul]
      have := Nat.mul_le_mul_right (18446744073709551616 ^ k) (show m ≤ T by omega)
      rw [Nat.mul_comm (18446744073709551616 ^ k) m]; omega
    have e := congrArg (· % m) this
    simp only [Nat.add_mul_mod_self_right] at e
    exact e
end Go.Proofs.YtdmglajfmfjmlaaGreat
