/- Rows in memory: small facts that all walks use (the same words as in the texts of package nat, for seats without it). -/
import Derived.Test.YtiimflmbcgnbeaaN1
import Derived.Test.YtiimflmbcgnbeaaBt
import Derived.Test.YtiimflmbcgnbeaaWWords
import Derived.Test.YtiimflmbcgnbeaaWMore
namespace Go.Proofs.Ytiimflmbcgnbeaa
set_option linter.unusedSimpArgs false
set_option linter.unusedVariables false
open Go.RowKit Go.Proofs.YtiimflmbcgnbeaaW.PrintWords Go.Proofs.YtiimflmbcgnbeaaW.PrintLast Go.Proofs.YtiimflmbcgnbeaaW.PrintMore

/-- the limbs that a row of whole numbers holds -/
def toN (l : List Int) : List Nat := l.map Int.toNat
theorem toN_length (l : List Int) : (toN l).length = l.length := by simp [toN]
def cI (xs : List Nat) : List Int := xs.map fun (x : Nat) => (x : Int)
theorem cI_length (xs : List Nat) : (cI xs).length = xs.length := by simp [cI]
theorem cI_toN {l : List Int} (h : ∀ x ∈ l, 0 ≤ x) : cI (toN l) = l := by
  simp only [cI, toN, List.map_map]
  conv => rhs; rw [← List.map_id l]
  refine List.map_congr_left fun x hx => ?_
  have := h x hx
  simp only [Function.comp, id]; omega
theorem toN_cI (xs : List Nat) : toN (cI xs) = xs := by simp [cI, toN, Function.comp_def]
theorem wr {x : Int} (h : -9223372036854775808 ≤ x) (h' : x ≤ 9223372036854775807) : wrap64 x = x := by unfold wrap64; omega
theorem rd_getD (l : List Int) (j : Nat) : rd l (j : Int) = l.getD j 0 := rfl
theorem of_ite {α : Type} {c : Prop} [Decidable c] {a r : α} (h : (if c then some a else none) = some r) : c ∧ a = r := by
  split at h
  · exact ⟨‹_›, Option.some.inj h⟩
  · cases h
theorem Own.cellAt {k : IntKind} {e : TypeId} {w : World} {base g n c : Nat} {xs : List Nat} (h : Own k e w base (some ⟨g, 0, none⟩) n c xs) {j : Nat} (hj : j < n) : w.cell? ⟨g, j, none⟩ = some (.int k ((gd xs j : Nat) : Int)) := by
  rw [World.ownsRow.cellAt h j (by omega), vs_get, gd_get (by rw [h.len]; exact hj)]; rfl
theorem Own.frozenAt {k : IntKind} {e : TypeId} {w : World} {base g n c : Nat} {xs : List Nat} (h : Own k e w base (some ⟨g, 0, none⟩) n c xs) (j : Nat) : w.frozen? ⟨g, j, none⟩ = false := World.ownsRow.frozenAt h j
theorem Own.store {k : IntKind} {e : TypeId} {w : World} {base g n c : Nat} {xs : List Nat} (h : Own k e w base (some ⟨g, 0, none⟩) n c xs) (j y : Nat) : Own k e (w.setCell ⟨g, j, none⟩ (.int k (y : Int))) base (some ⟨g, 0, none⟩) n c (xs.set j y) := by
  have := (World.ownsRow.stored h j (.int k (y : Int))).1
  unfold Own
  rw [show vs k (xs.set j y) = (vs k xs).set j (.int k (y : Int)) by simp [vs, List.map_set]]
  exact this
theorem Own.drewN {k : IntKind} {e : TypeId} {w : World} {base n c : Nat} {A : Option Addr} {xs : List Nat} (h : Own k e w base A n c xs) (m : Nat) : Own k e (w.drewN m) base A n c xs := h
theorem grown_refl (w : World) (r : Option Nat) : w.grownBy w r := World.grownBy.refl w r
theorem grown_set {w w' : World} {g : Nat} (h : w.grownBy w' (some g)) (j : Nat) (u : Value) : w.grownBy (w'.setCell ⟨g, j, none⟩ u) (some g) :=
  ⟨h.os, h.tape, h.output, by simpa using h.size, fun k hk hne => (Below.heap_setCell w' ⟨g, j, none⟩ u k (fun e => hne (by simp [e]))).trans (h.block k hk hne)⟩
theorem grown_drewN {w w' : World} {r : Option Nat} (h : w.grownBy w' r) (n : Nat) : w.grownBy (w'.drewN n) r := ⟨h.os, h.tape, h.output, h.size, h.block⟩
theorem grown_trans {w w' w'' : World} {r : Option Nat} (h : w.grownBy w' r) (h' : w'.grownBy w'' r) : w.grownBy w'' r :=
  ⟨h'.os.trans h.os, h'.tape.trans h.tape, h'.output.trans h.output, Nat.le_trans h.size h'.size, fun k hk hne => (h'.block k (Nat.lt_of_lt_of_le hk h.size) hne).trans (h.block k hk hne)⟩
theorem grown_alloc (w : World) (r : Option Nat) (o : Obj) : w.grownBy (w.alloc o) r := by
  have b := (Below.refl w.heap.size w).alloc (Nat.le_refl _) o
  exact ⟨rfl, rfl, rfl, by simp, fun k hk _ => b.block k hk⟩
theorem cell_set_ne {w : World} {p q : Addr} (h : q.block ≠ p.block) (u : Value) : (w.setCell p u).cell? q = w.cell? q := World.cell?_of_block (Below.heap_setCell w p u q.block h)
/-- a slice that lies elsewhere reads as before -/
theorem Rd.grown {k : IntKind} {w w' : World} {A : Option Addr} {n c : Nat} {xs : List Nat} {g : Nat} (h : Rd k w A n c xs) (hg : w.grownBy w' (some g)) (hne : ∀ ad, A = some ad → ad.block ≠ g) : Rd k w' A n c xs := by
  obtain ⟨h1, h2, h3, h4⟩ := h
  refine ⟨h1, h2, h3, fun hn => ?_⟩
  obtain ⟨ad, rfl, hlt, hc⟩ := h4 hn
  exact ⟨ad, rfl, Nat.lt_of_lt_of_le hlt hg.size, fun j x hx => (World.cell?_of_block (a := ad.add j) (by rw [Go.ChangeShapes.block_add]; exact hg.block _ hlt (by simpa using hne ad rfl))).trans (hc j x hx)⟩
theorem Own.take {k : IntKind} {e : TypeId} {w : World} {base g n c m : Nat} {xs : List Nat} (h : Own k e w base (some ⟨g, 0, none⟩) n c xs) (hm : m ≤ n) : Own k e w base (some ⟨g, 0, none⟩) m c (xs.take m) := by
  have hl := h.len
  rcases h.2 with ⟨h1, _⟩ | ⟨g', cap, cur, h1, hb, hh, hnc, hmx, hs, ht⟩
  · simp at h1
  · simp only [Value.slice.injEq, Option.some.injEq, Addr.mk.injEq, and_true, true_and] at h1
    obtain ⟨rfl, rfl⟩ := h1
    refine ⟨by rw [vs_length, List.length_take]; omega, .inr ⟨g, c, cur, rfl, hb, hh, by omega, hmx, hs, ?_⟩⟩
    have e2 := congrArg (List.take m) ht
    rw [Nat.mul_one] at *
    rw [List.take_take, Nat.min_eq_left hm] at e2
    rw [e2]; simp [vs, List.map_take]
theorem Own.blk {k : IntKind} {e : TypeId} {w : World} {base n c : Nat} {A : Option Addr} {xs : List Nat} (h : Own k e w base A n c xs) (hn : 0 < n) : ∃ g, A = some ⟨g, 0, none⟩ ∧ base ≤ g ∧ g < w.heap.size := by
  rcases h.ways with ⟨_, h0, _⟩ | ⟨g, rfl, h1, h2, _⟩
  · omega
  · exact ⟨g, rfl, h1, h2⟩
theorem Own.grown {k : IntKind} {e : TypeId} {w w' : World} {base n c : Nat} {A : Option Addr} {xs : List Nat} {g : Nat} (h : Own k e w base A n c xs) (hg : w.grownBy w' (some g)) (hne : A ≠ some ⟨g, 0, none⟩) : Own k e w' base A n c xs := by
  refine ⟨h.1, ?_⟩
  rcases h.2 with h2 | ⟨g', cap, cur, h1, hg', hh, r⟩
  · exact .inl h2
  · refine .inr ⟨g', cap, cur, h1, hg', (hg.block g' (Array.getElem?_eq_some_iff.1 hh).1 ?_).trans hh, r⟩
    intro e
    simp only [Option.some.injEq] at e
    simp only [Value.slice.injEq] at h1
    exact hne (by rw [h1.1, e])
/-- Two rows lie apart. -/
def Apart (A A' : Option Addr) : Prop := ∀ g, A = some ⟨g, 0, none⟩ → A' ≠ some ⟨g, 0, none⟩
theorem Apart.of {k k' : IntKind} {e e' : TypeId} {w w' : World} {base n c n' c' : Nat} {A A' : Option Addr} {xs xs' : List Nat} (h : Own k e w base A n c xs) (h' : Own k' e' w' w.heap.size A' n' c' xs') : Apart A A' := by
  rintro g rfl e
  rcases h.ways with ⟨h1, _⟩ | ⟨g1, h1, _, h2, _⟩
  · cases h1
  · rcases h'.ways with ⟨h3, _⟩ | ⟨g2, h3, h4, _⟩
    · rw [e] at h3; cases h3
    · rw [e] at h3
      simp only [Option.some.injEq, Addr.mk.injEq, and_true] at h1 h3
      omega
theorem Apart.none (A : Option Addr) : Apart Option.none A := fun _ h => by cases h
theorem R_of_Own {k : IntKind} {e : TypeId} {w : World} {base n c : Nat} {A : Option Addr} {xs : List Nat} {ok : Nat → Prop} (h : Own k e w base A n c xs) (hok : ∀ g, A = some ⟨g, 0, none⟩ → ok g) : Kd.R (Kd.int k) e w base ok (.slice A n c) (xs.map fun (x : Nat) => (x : Int)) := by
  have hl := h.len
  refine Kd.R_of_own (enc := Value.int k) ?_ ?_
  · have e : encs (Value.int k) (xs.map fun (x : Nat) => (x : Int)) = vs k xs := by simp [encs, vs]
    rw [e, List.length_map, hl]
    exact h
  · intro g hg
    rcases h.ways with ⟨rfl, _⟩ | ⟨g', rfl, _⟩
    · simp [Value.ownBlock] at hg
    · simp only [Value.ownBlock, Option.some.injEq] at hg
      exact hok g (by rw [hg])
/-- any row of numbers that are not below nought -/
theorem rd_of_C' {k : IntKind} {w : World} {A : Option Addr} {c : Nat} {l : List Int} (h : Kd.C (Kd.int k) w A l.length l) (hc : l.length ≤ c) (ho : ∀ x ∈ l, 0 ≤ x) : Rd k w A l.length c (toN l) := by
  obtain ⟨_, h2, h3⟩ := Kd.reads_of_C (d := (0 : Int)) h
  refine ⟨toN_length l, hc, h2, fun hn => ?_⟩
  obtain ⟨ad, e, hcell⟩ := h3 hn
  refine ⟨ad, e, ?_, fun j x hx => ?_⟩
  · have := World.block_lt_of_cell? w _ (hcell 0 hn)
    rwa [Go.ChangeShapes.block_add] at this
  · have hj : j < l.length := by
      rcases Nat.lt_or_ge j (toN l).length with h | h
      · rwa [toN_length] at h
      · rw [List.getElem?_eq_none h] at hx; cases hx
    rw [hcell j hj]
    have hl : l[j]? = some (l.getD j 0) := by rw [List.getD_eq_getElem?_getD, List.getElem?_eq_getElem hj]; rfl
    have hb := ho (l.getD j 0) (List.mem_of_getElem? hl)
    simp only [toN, List.getElem?_map, hl, Option.map_some, Option.some.injEq] at hx
    congr 2
    omega
theorem C_of_Rd {k : IntKind} {w : World} {A : Option Addr} {n c : Nat} {xs : List Nat} (h : Rd k w A n c xs) : Kd.C (Kd.int k) w A (cI xs).length (cI xs) := by
  refine Kd.C_of_reads (d := (0 : Int)) ⟨rfl, by rw [cI_length, h.len]; exact h.max, fun hn => ?_⟩
  rw [cI_length, h.len] at hn
  obtain ⟨ad, e, _, hc⟩ := h.form hn
  refine ⟨ad, e, fun j hj => ?_⟩
  rw [cI_length, h.len] at hj
  rw [hc j hj]
  have : (cI xs).getD j 0 = ((gd xs j : Nat) : Int) := by
    rw [List.getD_eq_getElem?_getD]; unfold cI
    rw [List.getElem?_map, gd_get (by rw [h.len]; exact hj)]; rfl
  rw [this]
theorem Own.of_R {k : IntKind} {e : Nat} {w : World} {base : Nat} {ok : Nat → Prop} {v : Value} {l : List Int} (h : Kd.R (Kd.int k) e w base ok v l) (h0 : ∀ x ∈ l, 0 ≤ x) : ∃ A c, v = .slice A l.length c ∧ Own k e w base A l.length c (toN l) := by
  obtain ⟨A, c, rfl⟩ := Kd.R_slice h
  refine ⟨A, c, rfl, ?_⟩
  have ho := Kd.own_of_R h
  have e1 : encs (Value.int k) l = vs k (toN l) := by
    unfold encs vs
    rw [show toN l = l.map Int.toNat from rfl, List.map_map]
    refine List.map_congr_left fun x hx => ?_
    have := h0 x hx
    simp only [Function.comp]; congr 1; omega
  rw [e1] at ho
  exact ho
end Go.Proofs.Ytiimflmbcgnbeaa
