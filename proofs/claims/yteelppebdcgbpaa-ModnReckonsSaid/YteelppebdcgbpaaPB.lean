/- Texts of this claim, joined: what its laws use. -/
import Derived.Test.YteelppebdcgbpaaPA
import Derived.Laws.StructEq
import Derived.Test.YteelppebdcgbpaaProg
import Derived.Below
import Derived.Deep.Draws
import Derived.Deep.AppendLies
import Derived.Maps.AppendAt
import Derived.OwnWalk
import Derived.Laws.BytesArg
import Derived.Laws.MakeOwn
import Derived.Laws.OwnMore
import Derived.Deep.OwnRows
import Derived.Tactics
import Derived.Lib.ConvBytes
import Derived.Laws.Slices
import Derived.WalkKit
import Derived.KernelRfl
import Derived.RowKit3
import Derived.Deep.LoopGhost
import Derived.Deep.QuietTactic
import Derived.BigQuiet
import Derived.WideLaws
import Derived.Deep.DeepCutAuto
import Derived.Deep.CutBlock
import Derived.Deep.RegionHeld3
import Derived.Laws.Rows
import Derived.Lib.AppendStr
import Derived.ArgAppend
import Derived.Laws.IdiomCopy
import Derived.OrdersHeld
import Derived.Laws.BitsLemmas
import Derived.RowKit
namespace Go.Proofs.Yteelppebdcgbpaa
set_option linter.unusedSimpArgs false
set_option linter.unusedVariables false
open Go.RowKit Go.Proofs.YteelppebdcgbpaaW.PrintWords Go.Proofs.YteelppebdcgbpaaW.PrintLast
def binI (m : Nat) (l : List Int) : Prop := l.length ≤ m ∧ ∀ x ∈ l, x = 0 ∨ x = 1
instance (m : Nat) (l : List Int) : Decidable (binI m l) := by unfold binI; exact inferInstance
theorem rd_of_C' {k : IntKind} {w : World} {A : Option Addr} {c : Nat} {l : List Int} (h : Kd.C (Kd.int k) w A l.length l) (hc : l.length ≤ c) (ho : ∀ x ∈ l, 0 ≤ x) : Rd k w A l.length c (toN l) := by
  obtain ⟨_, h2, h3⟩ := Kd.reads_of_C (d := (0 : Int)) h
  refine ⟨toN_length l, hc, h2, fun hn => ?_⟩
  obtain ⟨ad, e, hcell⟩ := h3 hn
  refine ⟨ad, e, ?_, fun j x hx => ?_⟩
  · have := World.block_lt_of_cell? w _ (hcell 0 hn)
    rwa [Go.ChangeShapes.block_add] at this
  · have hj : j < l.length := by
      rcases Nat.lt_or_ge j (toN l).length with h | h
      · rwa [toN_length] at h
      · rw [List.getElem?_eq_none h] at hx; cases hx
    rw [hcell j hj]
    have hl : l[j]? = some (l.getD j 0) := by rw [List.getD_eq_getElem?_getD, List.getElem?_eq_getElem hj]; rfl
    have hb := ho (l.getD j 0) (List.mem_of_getElem? hl)
    simp only [toN, List.getElem?_map, hl, Option.map_some, Option.some.injEq] at hx
    congr 2
    omega
theorem lz_giv {a0 r : Int} {w : World} (h : (if 0 ≤ a0 ∧ a0 < 18446744073709551616 then some (64 - (Lib.bitLen a0.toNat : Int)) else none) = some r) :
    Calls Try.prog 50 #[.int .u64 a0] w fun e w' => e = .returned (.int .i64 r) ∧ Drawn0 w w' := by
  obtain ⟨h0, rfl⟩ := of_ite h
  refine (Yteelppebdcgbpaa.bits_LeadingZeros64 a0 w h0.1 (by omega)).mono ?_
  rintro e w' ⟨rfl, rfl⟩
  exact ⟨rfl, Drawn0.refl _⟩
def dg (n : Nat) : List Int := if h : n = 0 then [] else ((n % 2 : Nat) : Int) :: dg (n / 2)
termination_by n
decreasing_by exact Nat.div_lt_self (Nat.pos_of_ne_zero h) (by omega)
theorem dg_zero : dg 0 = [] := by rw [dg]; simp
theorem dgp {n : Nat} (h : n ≠ 0) : dg n = ((n % 2 : Nat) : Int) :: dg (n / 2) := by rw [dg]; simp [h]
def blen (n : Nat) : Nat := (dg n).length
theorem blen_zero : blen 0 = 0 := by unfold blen; rw [dg_zero]; rfl
theorem blen_pos {n : Nat} (h : n ≠ 0) : blen n = blen (n / 2) + 1 := by unfold blen; rw [dgp h]; rfl
theorem blen_le {n k : Nat} : blen n ≤ k ↔ n < 2 ^ k := by
  induction k generalizing n with
  | zero =>
    by_cases h : n = 0
    · subst h; simp [blen_zero]
    · rw [blen_pos h]; simp; omega
  | succ k ih =>
    by_cases h : n = 0
    · subst h; rw [blen_zero]; exact ⟨fun _ => Nat.pow_pos (by omega), fun _ => by omega⟩
    · rw [blen_pos h, Nat.add_le_add_iff_right, ih, Nat.pow_succ, Nat.div_lt_iff_lt_mul (by omega)]
theorem lt_blen (n : Nat) : n < 2 ^ blen n := blen_le.1 (Nat.le_refl _)
def BinL (l : List Int) : Prop := ∀ x ∈ l, x = 0 ∨ x = 1
theorem BinL.nil : BinL [] := fun x h => by cases h
theorem BinL.append {l m : List Int} (h : BinL l) (h' : BinL m) : BinL (l ++ m) := fun x hx => by
  rcases List.mem_append.1 hx with hx | hx
  · exact h x hx
  · exact h' x hx
theorem BinL.one {x : Int} (h : x = 0 ∨ x = 1) : BinL [x] := fun y hy => by rw [List.mem_singleton.1 hy]; exact h
theorem BinL.take {l : List Int} (h : BinL l) (k : Nat) : BinL (l.take k) := fun x hx => h x (List.mem_of_mem_take hx)
theorem BinL.drop {l : List Int} (h : BinL l) (k : Nat) : BinL (l.drop k) := fun x hx => h x (List.mem_of_mem_drop hx)
theorem BinL.set {l : List Int} (h : BinL l) (j : Nat) {y : Int} (hy : y = 0 ∨ y = 1) : BinL (l.set j y) := fun x hx => by
  rcases List.mem_or_eq_of_mem_set hx with hx | rfl
  · exact h x hx
  · exact hy
theorem BinL.binI {l : List Int} (h : BinL l) {m : Nat} (hl : l.length ≤ m) : binI m l := ⟨hl, h⟩
def bz (l : List Int) : Nat := bvN (toN l)
theorem rd_getD (l : List Int) (j : Nat) : rd l (j : Int) = l.getD j 0 := rfl
theorem div_next (a i : Nat) : a / 2 ^ i = 2 * (a / 2 ^ (i + 1)) + a / 2 ^ i % 2 := by
  rw [Nat.pow_succ, ← Nat.div_div_eq_div_mul]; omega
theorem wr {x : Int} (h : -9223372036854775808 ≤ x) (h' : x ≤ 9223372036854775807) : wrap64 x = x := by unfold wrap64; omega
theorem wn1 {n : Nat} (h : n ≤ 9223372036854775806) : wrap64 ((n : Int) + 1) = ((n + 1 : Nat) : Int) := by rw [wr (by omega) (by omega)]; omega
theorem nv_bits_and (a : Nat) (ha : a < 18446744073709551616) : Go.bits .and .u64 (a : Int) 1 = ((a % 2 : Nat) : Int) := by
  have := and_u64 ha (show 1 < 18446744073709551616 by omega)
  rw [show (1 : Int) = ((1 : Nat) : Int) from rfl, this, show 1 = 2 ^ 1 - 1 from rfl, and_mask]
theorem ln2 {a b k m : Nat} (h : ln a ≤ k) (h' : ln b ≤ k) (hk : k + 1 ≤ m) : ln (a + b) ≤ m := Nat.le_trans (ln_add a b k h h') hk
theorem lnm {a b k k' m : Nat} (h : ln a ≤ k) (h' : ln b ≤ k') (hk : k + k' ≤ m) : ln (a * b) ≤ m := by have := ln_mul a b; omega
theorem okS {n : Nat} (h : n < 18446744073709551616) : okN 262144 (ofN n) := okN_ofN (Nat.le_trans (ln_small h) (by omega))
theorem okL {l : List Int} {m : Nat} (h : l.length ≤ m) (hw : ∀ x ∈ l, (Lit.int .u64 x).wf = true) : okN m l := by
  refine ⟨h, fun x hx => ?_⟩
  have := hw x hx
  have e : IntKind.u64.min ≤ x ∧ x ≤ IntKind.u64.max := by simpa [Lit.wf] using this
  have e0 : IntKind.u64.min = 0 := rfl
  have e1 : IntKind.u64.max = 18446744073709551615 := rfl
  omega
end Go.Proofs.Yteelppebdcgbpaa
namespace Go.Proofs.YteelppebdcgbpaaW.PrintLast
open Go.Proofs.YteelppebdcgbpaaW.PrintWords (Aside0)
def needsOf (md : Region.Mode) (o : Oper) : List Nat := (o.after.toList.filter (fun e => Region.binds md e)).map (fun e => e.on)
def clashOf (md : Region.Mode) (ops : Array Oper) (i : Nat) (oi : Oper) : List Nat := (List.range ops.size).filter fun j => !(j == i) && match ops[j]? with
  | some oj => !(oj.after.any (fun e => Region.binds md e && e.on == i) || oi.apart ops oj)
  | none => false
def rtab (md : Region.Mode) (ops : Array Oper) : Bool × List (List Nat × List Nat) := (Region.noSelect ops, (List.range ops.size).map fun i => match ops[i]? with
  | some o => (needsOf md o, clashOf md ops i o)
  | none => ([], []))
def readyAt (T : List (List Nat × List Nat)) (l : List Bool) (i : Nat) : Bool := !l.getD i true && match T[i]? with
  | some r => r.1.all (fun j => l.getD j false)
  | none => false
def readyT (T : List (List Nat × List Nat)) (l : List Bool) : List Nat := (List.range T.length).filter (readyAt T l)
def freeT (T : List (List Nat × List Nat)) (l : List Bool) (i : Nat) : Bool := match T[i]? with
  | some r => r.2.all (fun j => l.getD j true)
  | none => false
def closedT (T : List (List Nat × List Nat)) (l : List Bool) : Bool := (List.range T.length).all fun j => !l.getD j false || match T[j]? with
  | some r => r.1.all (fun k => l.getD k false)
  | none => true
def reachT (T : List (List Nat × List Nat)) (i : Nat) : Nat → Nat → Bool
  | 0, _ => false
  | fuel + 1, d => match T[d]? with
    | some r => r.1.any fun j => j == i || reachT T i fuel j
    | none => false
def lastT (T : List (List Nat × List Nat)) (l : List Bool) (ds : List Nat) (i : Nat) : Bool := ds.all fun d => l.getD d true || reachT T i T.length d
section
variable {md : Region.Mode} {ops : Array Oper} {T : Bool × List (List Nat × List Nat)} {l l' li lj lk : Array Bool} {ds : List Nat} {i j k : Nat}
theorem gd (l : Array Bool) (j : Nat) (b : Bool) : l.getD j b = l.toList.getD j b := by simp [Array.getD_eq_getD_getElem?, List.getD_eq_getElem?_getD]
theorem needs_all (o : Oper) (p : Nat → Bool) : o.after.all (fun e => !Region.binds md e || p e.on) = (needsOf md o).all p := by
  unfold needsOf
  rw [← Array.all_toList]
  induction o.after.toList with
  | nil => rfl
  | cons e r ih =>
    rw [List.all_cons, ih, List.filter_cons]
    cases h : Region.binds md e <;> simp
theorem needs_any (o : Oper) (p : Nat → Bool) : o.after.any (fun e => Region.binds md e && p e.on) = (needsOf md o).any p := by
  unfold needsOf
  rw [← Array.any_toList]
  induction o.after.toList with
  | nil => rfl
  | cons e r ih =>
    rw [List.any_cons, ih, List.filter_cons]
    cases h : Region.binds md e <;> simp
theorem rtab_length : (rtab md ops).2.length = ops.size := by simp [rtab]
theorem rtab_some {o : Oper} (h : ops[i]? = some o) : (rtab md ops).2[i]? = some (needsOf md o, clashOf md ops i o) := by
  have hi := (Array.getElem?_eq_some_iff.1 h).1
  unfold rtab
  rw [List.getElem?_map, List.getElem?_range hi, Option.map_some, h]
theorem rtab_none (h : ops[i]? = none) : (rtab md ops).2[i]? = none := by
  have hi : ops.size ≤ i := Array.getElem?_eq_none_iff.1 h
  exact List.getElem?_eq_none (by rw [rtab_length]; exact hi)
theorem readyAt_eq : readyAt (rtab md ops).2 l.toList i = (!l.getD i true && ((ops[i]?).map (·.after.all fun e => !Region.binds md e || l.getD e.on false)).getD false) := by
  unfold readyAt
  rw [gd]
  cases h : ops[i]? with
  | none => rw [rtab_none h]; rfl
  | some o =>
    rw [rtab_some h]
    simp only [Option.map_some, Option.getD_some]
    rw [← needs_all]
    simp only [gd]
theorem ready_eq : Region.ready md ops l = readyT (rtab md ops).2 l.toList := by
  unfold Region.ready readyT
  rw [rtab_length]
  refine List.filter_congr (fun i _ => ?_)
  rw [readyAt_eq]
theorem free_eq : Region.free md ops l i = freeT (rtab md ops).2 l.toList i := by
  unfold Region.free freeT
  cases h : ops[i]? with
  | none => rw [rtab_none h]
  | some oi =>
    rw [rtab_some h]
    simp only [clashOf]
    rw [List.all_filter]
    congr 1
    funext j
    rw [gd]
    cases hj : ops[j]? with
    | none => cases (j == i) <;> cases (l.toList.getD j true) <;> simp
    | some oj =>
      cases (j == i) <;> cases (l.toList.getD j true) <;> cases (oj.after.any (fun e => Region.binds md e && e.on == i) || oi.apart ops oj) <;> simp_all
theorem closed_eq : Region.closedB md ops l = closedT (rtab md ops).2 l.toList := by
  unfold Region.closedB closedT
  rw [rtab_length]
  congr 1
  funext j
  rw [gd]
  cases h : ops[j]? with
  | none => rw [rtab_none h]
  | some o =>
    rw [rtab_some h]
    simp only
    rw [← needs_all]
    simp only [gd]
theorem reach_eq : ∀ (fuel d : Nat), Region.reachB md ops i fuel d = reachT (rtab md ops).2 i fuel d
  | 0, _ => rfl
  | fuel + 1, d => by
    unfold Region.reachB reachT
    cases h : ops[d]? with
    | none => rw [rtab_none h]
    | some o =>
      rw [rtab_some h]
      simp only
      rw [← needs_any]
      congr 1
      funext e
      rw [reach_eq fuel]
theorem last_eq : Region.lastB md ops l ds i = lastT (rtab md ops).2 l.toList ds i := by
  unfold Region.lastB lastT
  rw [rtab_length]
  congr 1
  funext d
  rw [gd, reach_eq]
theorem readyAt_mem (h : readyAt T.2 l.toList i = true) (hT : rtab md ops = T) : (Region.ready md ops l).contains i = true := by
  subst hT
  rw [ready_eq]
  unfold readyT
  rw [List.contains_iff_mem, List.mem_filter, List.mem_range]
  refine ⟨?_, h⟩
  unfold readyAt at h
  rw [Bool.and_eq_true] at h
  cases hq : (rtab md ops).2[i]? with
  | none => rw [hq] at h; simp at h
  | some r => exact (List.getElem?_eq_some_iff.1 hq).1
theorem set_of (h : (l.toList.set i true == l'.toList) = true) : (l.setIfInBounds i true == l') = true := by
  rw [beq_iff_eq] at h ⊢
  apply Array.ext'
  rw [Array.toList_setIfInBounds]
  exact h
def anyT (T : Bool × List (List Nat × List Nat)) (l l' : List Bool) (i : Nat) : Bool := T.1 && freeT T.2 l i && readyAt T.2 l i && (l.set i true == l')
theorem any_of (hT : rtab md ops = T) (h : anyT T l.toList l'.toList i = true) : anyB md ops l l' i = true := by
  simp only [anyT, Bool.and_eq_true] at h
  obtain ⟨⟨⟨h1, h2⟩, h3⟩, h4⟩ := h
  have h5 := readyAt_mem h3 hT
  have h6 := set_of h4
  subst hT
  simp only [anyB, Bool.and_eq_true]
  exact ⟨⟨⟨h1, by rw [free_eq]; exact h2⟩, h5⟩, h6⟩
def takeT (T : Bool × List (List Nat × List Nat)) (ds : List Nat) (l l' : List Bool) (i : Nat) : Bool := T.1 && freeT T.2 l i && readyAt T.2 l i && closedT T.2 l && lastT T.2 l ds i && (l.set i true == l')
theorem take_of (hT : rtab md ops = T) (h : takeT T ds l.toList l'.toList i = true) : takeB md ops ds l l' i = true := by
  simp only [takeT, Bool.and_eq_true] at h
  obtain ⟨⟨⟨⟨⟨h1, h2⟩, h3⟩, h4⟩, h5⟩, h6⟩ := h
  have h7 := readyAt_mem h3 hT
  have h8 := set_of h6
  subst hT
  simp only [takeB, Bool.and_eq_true]
  exact ⟨⟨⟨⟨⟨h1, by rw [free_eq]; exact h2⟩, h7⟩, by rw [closed_eq]; exact h4⟩, by rw [last_eq]; exact h5⟩, h8⟩
theorem one_of (hT : rtab md ops = T) (h : (readyT T.2 l.toList == [i] && l.toList.set i true == l'.toList) = true) : readyB md ops l l' i = true := by
  simp only [Bool.and_eq_true] at h
  obtain ⟨h1, h2⟩ := h
  subst hT
  simp only [readyB, Bool.and_eq_true]
  exact ⟨by rw [ready_eq]; exact h1, set_of h2⟩
theorem done_of (hT : rtab md ops = T) (h : (readyT T.2 l.toList == []) = true) : (Region.ready md ops l == []) = true := by
  subst hT
  rw [ready_eq]
  exact h
def upM (B : List Nat) (d : Nat) : List Nat → Nat
  | [] => 0
  | n :: r => (2 ^ n ||| (if n < d then B.getD n 0 else 0)) ||| upM B d r
def waitsOk (T : List (List Nat × List Nat)) (B : List Nat) : Bool := (List.range T.length).all fun d => match T[d]? with
  | some r => (B.getD d 0 ||| upM B d r.1) == upM B d r.1
  | none => false
theorem upM_bit {B : List Nat} {d i : Nat} : ∀ {ns : List Nat}, (upM B d ns).testBit i = true → ∃ n ∈ ns, n = i ∨ (n < d ∧ (B.getD n 0).testBit i = true)
  | [], h => by simp [upM] at h
  | n :: r, h => by
    unfold upM at h
    rw [Nat.testBit_or, Nat.testBit_or, Bool.or_eq_true, Bool.or_eq_true] at h
    rcases h with (h | h) | h
    · rw [Nat.testBit_two_pow] at h
      exact ⟨n, List.mem_cons_self, .inl (by simpa using h)⟩
    · by_cases hn : n < d
      · rw [if_pos hn] at h
        exact ⟨n, List.mem_cons_self, .inr ⟨hn, h⟩⟩
      · rw [if_neg hn] at h
        simp at h
    · obtain ⟨m, hm, h2⟩ := upM_bit h
      exact ⟨m, List.mem_cons_of_mem _ hm, h2⟩
theorem reach_bit {T : List (List Nat × List Nat)} {B : List Nat} (hB : waitsOk T B = true) : ∀ (fuel d : Nat), d < fuel → d < T.length → (B.getD d 0).testBit i = true → reachT T i fuel d = true
  | 0, d, h, _, _ => by omega
  | fuel + 1, d, h, hd, hb => by
    have h1 := List.all_eq_true.1 hB d (List.mem_range.2 hd)
    cases hr : T[d]? with
    | none => rw [hr] at h1; simp at h1
    | some r =>
      rw [hr] at h1
      simp only [beq_iff_eq] at h1
      have h2 : (upM B d r.1).testBit i = true := by rw [← h1, Nat.testBit_or, hb, Bool.true_or]
      obtain ⟨n, hn, h3⟩ := upM_bit h2
      unfold reachT
      rw [hr]
      simp only
      rw [List.any_eq_true]
      refine ⟨n, hn, ?_⟩
      rcases h3 with rfl | ⟨h4, h5⟩
      · simp
      · rw [reach_bit hB fuel n (by omega) (by omega) h5, Bool.or_true]
def lastW (T : List (List Nat × List Nat)) (B : List Nat) (l : List Bool) (ds : List Nat) (i : Nat) : Bool := ds.all fun d => l.getD d true || (decide (d < T.length) && (B.getD d 0).testBit i)
def takeW (T : Bool × List (List Nat × List Nat)) (B : List Nat) (ds : List Nat) (l l' : List Bool) (i : Nat) : Bool := T.1 && freeT T.2 l i && readyAt T.2 l i && closedT T.2 l && lastW T.2 B l ds i && (l.set i true == l')
theorem take_ofW {B : List Nat} (hT : rtab md ops = T) (hB : waitsOk T.2 B = true) (h : takeW T B ds l.toList l'.toList i = true) : takeB md ops ds l l' i = true := by
  refine take_of hT ?_
  simp only [takeW, takeT, Bool.and_eq_true] at h ⊢
  obtain ⟨⟨⟨⟨⟨h1, h2⟩, h3⟩, h4⟩, h5⟩, h6⟩ := h
  refine ⟨⟨⟨⟨⟨h1, h2⟩, h3⟩, h4⟩, ?_⟩, h6⟩
  unfold lastW at h5
  unfold lastT
  rw [List.all_eq_true] at h5 ⊢
  intro d hd
  have h7 := h5 d hd
  rw [Bool.or_eq_true, Bool.and_eq_true, decide_eq_true_eq] at h7
  rcases h7 with h7 | ⟨h8, h9⟩
  · rw [h7, Bool.true_or]
  · rw [reach_bit hB _ d h8 h8 h9, Bool.or_true]
theorem with_tabW {P : Program} {Q : Exit → Act → World → Prop} {S : World → Prop} {n : Nat} {a : Act} {w : World} {B : List Nat} (hT : rtab md ops = T) (hB : waitsOk T.2 B = true) (h : Aside0 (rtab md ops = T) → Aside0 (waitsOk T.2 B = true) → wpAnyLast P md ops Q S ds n l a w) : wpAnyLast P md ops Q S ds n l a w := h ⟨hT⟩ ⟨hB⟩
end
def opsIn : Code → Nat → Option (Array Oper)
  | .region id ops _, k => if id == k then some ops else none
  | .seq a b, k => match opsIn a k with
    | some o => some o
    | none => opsIn b k
  | .cond _ a b, k => match opsIn a k with
    | some o => some o
    | none => opsIn b k
  | .block _ c, k => opsIn c k
  | .loop c, k => opsIn c k
  | .scope c, k => opsIn c k
  | .rangeFunc _ _ a b, k => match opsIn a k with
    | some o => some o
    | none => opsIn b k
  | _, _ => none
def opsOf (f : Func) (k : Nat) : Array Oper := ((f.body.bind fun c => opsIn c k)).getD #[]
end Go.Proofs.YteelppebdcgbpaaW.PrintLast
namespace Go.Proofs.YteelppebdcgbpaaW.PrintWords
theorem Reps.one {α : Type} {R : α → List Value → Prop} {ps : List α} {cs : List Value} {p : α} {v : Value} (hp : R p [v]) (h : Reps R 1 ps cs) : Reps R 1 (p :: ps) (v :: cs) := by
  refine ⟨by simp [h.1], fun j q hq => ?_⟩
  cases j with
  | zero =>
    simp only [List.getElem?_cons_zero, Option.some.injEq] at hq
    subst hq
    simpa using hp
  | succ j =>
    simp only [List.getElem?_cons_succ] at hq
    have h1 := h.2 j q hq
    simpa [Nat.mul_one] using h1
end Go.Proofs.YteelppebdcgbpaaW.PrintWords
namespace Go.Proofs.YteelppebdcgbpaaW.PrintWords
open Go.RowKit
section
variable {P : Program} {ops : Array Oper} {rest : List Oper} {o : Oper} {a : Act} {Q : Exit → Act → World → Prop} {W : World}
theorem gate_guard (hw : Region.wanted o (yielded ops a.tmps) = true) (h : wpList P ops Q ({ o with guard := none } :: rest) a W) : wpList P ops Q (o :: rest) a W := by
  have h1 : Region.wanted { o with guard := none } (yielded ops a.tmps) = true := rfl
  unfold wpList at h ⊢
  rw [if_pos h1] at h
  rw [if_pos hw]
  exact h
end
end Go.Proofs.YteelppebdcgbpaaW.PrintWords
namespace Go.Proofs.Yteelppebdcgbpaa.Ca
open Go.RowKit Go.Proofs.YteelppebdcgbpaaW.PrintWords Go.Proofs.YteelppebdcgbpaaW.PrintLast Go.Proofs.YteelppebdcgbpaaW.PrintMore
attribute [local go_sem] max2_int min2_int max_two min_two max_three min_three max_four min_four   -- for this text's walks alone
set_option linter.unusedVariables false
set_option linter.unusedSimpArgs false
def errW : Option Int → Value
  | none => .nilIface
  | some c => .iface 0 (.int .i64 c)
theorem errW_none : errW none = .nilIface := rfl
theorem errW_some (c : Int) : errW (some c) = .iface 0 (.int .i64 c) := rfl
end Go.Proofs.Yteelppebdcgbpaa.Ca
namespace Go.Proofs.Yteelppebdcgbpaa.Ca
open Go.RowKit Go.Proofs.YteelppebdcgbpaaW.PrintWords Go.Proofs.YteelppebdcgbpaaW.PrintLast Go.Proofs.YteelppebdcgbpaaW.PrintMore
attribute [local go_sem] max2_int min2_int max_two min_two max_three min_three max_four min_four   -- for this text's walks alone
set_option linter.unusedVariables false
set_option linter.unusedSimpArgs false
def nat_Trim.f (l0 : List Int) : Option (List Int) := if okN 262144 l0 then some (ofN (nI l0)) else none
theorem nat_Trim.calls (A0 : Option Addr) (c0 : Nat) (l0 : List Int) (r : List Int) (w : World) (hr0 : Kd.C (Kd.int .u64) w A0 l0.length l0) (hc0 : l0.length ≤ c0) (h : nat_Trim.f l0 = some r) :
    Calls Try.prog 40 #[.slice A0 l0.length c0] w fun e w' => ∃ v0_ : Value, e = .returned (v0_) ∧ Kd.R (Kd.int .u64) 35 w' w.heap.size (fun _ => True) v0_ r ∧ Below w.heap.size w w' := by
  exact trim_giv hr0 hc0 h
def bits_LeadingZeros64.f (a0 : Int) : Option (Int) := if 0 ≤ a0 ∧ a0 < 18446744073709551616 then some (64 - (Lib.bitLen a0.toNat : Int)) else none
theorem bits_LeadingZeros64.calls (a0 : Int) (r : Int) (w : World) (h : bits_LeadingZeros64.f a0 = some r) :
    Calls Try.prog 50 #[.int .u64 a0] w fun e w' => e = .returned (.int .i64 r) ∧ Drawn0 w w' := by
  exact lz_giv h
def nat_Bits.f (l0 : List Int) : Option (Int) := (nat_Trim.f l0).bind fun t101 => (if (t101.length : Int) = 0 then (some 0) else (if 0 ≤ (wrap64 ((t101.length : Int) - 1)) then (if (wrap64 ((t101.length : Int) - 1)) < (t101.length : Int) then ((bits_LeadingZeros64.f (rd t101 (wrap64 ((t101.length : Int) - 1)))).bind fun t105 => (some (wrap64 ((wrap64 (64 * (t101.length : Int))) - t105)))) else (none)) else (none)))
set_option maxHeartbeats 8000000 in
set_option maxRecDepth 100000 in
theorem nat_Bits.calls (A0 : Option Addr) (c0 : Nat) (l0 : List Int) (r : Int) (w : World) (hr0 : Kd.C (Kd.int .u64) w A0 l0.length l0) (hc0 : l0.length ≤ c0) (h : nat_Bits.f l0 = some r) :
    Calls Try.prog 24 #[.slice A0 l0.length c0] w fun e w' => e = .returned (.int .i64 r) ∧ Below w.heap.size w w' := by
  have HR0 := Aside0.mk hr0
  have HC0 := Aside0.mk hc0
  clear hr0 hc0
  have HB := Aside0.mk (Below.refl w.heap.size w)
  have H : ((nat_Trim.f l0).bind fun t101 => (if (t101.length : Int) = 0 then (some 0) else (if 0 ≤ (wrap64 ((t101.length : Int) - 1)) then (if (wrap64 ((t101.length : Int) - 1)) < (t101.length : Int) then ((bits_LeadingZeros64.f (rd t101 (wrap64 ((t101.length : Int) - 1)))).bind fun t105 => (some (wrap64 ((wrap64 (64 * (t101.length : Int))) - t105)))) else (none)) else (none)))) = some r := h
  clear h
  replace H := Option.bind_eq_some_iff.mp H
  obtain ⟨t101, A20, H⟩ := H
  replace H : (if (t101.length : Int) = 0 then (some 0) else (if 0 ≤ (wrap64 ((t101.length : Int) - 1)) then (if (wrap64 ((t101.length : Int) - 1)) < (t101.length : Int) then ((bits_LeadingZeros64.f (rd t101 (wrap64 ((t101.length : Int) - 1)))).bind fun t105 => (some (wrap64 ((wrap64 (64 * (t101.length : Int))) - t105)))) else (none)) else (none))) = some r := H
  have A2 := Aside0.mk A20
  clear A20
  by_cases c3 : (t101.length : Int) = 0
  · rw [if_pos c3] at H
    have c3b0 : ((t101.length : Int) == 0) = true := beq_iff_eq.mpr c3
    have c3b1 : ((t101.length : Int) != 0) = false := bne_eq_false_iff_eq.mpr c3
    clear c3
    obtain rfl := Option.some.inj H
    simp only [Option.some.injEq, Prod.mk.injEq] at H
    obtain ⟨rfl⟩ := H
    go_enter Try.func24, Try.ntmps24
    go_wp2_with (first | ((with_reducible refine gate_callee (f := 40) rfl ?_); refine goesL_ (some 4) rfl rfl Try.func40 (by kernel_rfl) rfl #[.slice A0 l0.length c0] rfl (by (try simp only [List.map_toArray, List.map_cons, List.map_nil]); first | done | rfl | (simp only [List.length_drop, List.length_take]; rfl)) ?_; (with_reducible refine (nat_Trim.calls _ _ l0 t101 _ ?side1 ?side2 A2.out).mono ?_); (case side1 => repeat (first | exact HR0.out | (with_reducible refine Kd.C_alloc ?_ _) | (with_reducible refine Kd.C_drewN ?_ _) | (with_reducible refine Kd.C_drew ?_))); (case side2 => exact HC0.out); rintro e w4 ⟨v102, rfl, ho0, hb⟩; refine ⟨_, rfl, ?_⟩; have n0_ := Aside0.mk (Kd.R_lower ho0 (below_size (by repeat (first | (with_reducible first | exact HB.out | apply below_alloc | apply pw_below_drewN | apply below_drew1) | exact HB.out)))); have n1_ := Aside0.mk (below_step (by repeat (first | (with_reducible first | exact HB.out | apply below_alloc | apply pw_below_drewN | apply below_drew1) | exact HB.out)) hb); clear HB; have HO103 := n0_; have HB := n1_; clear n0_ n1_; (try clear hb); (try clear hb2); (try clear hk); (try clear hi); (try clear ho0); obtain ⟨Ao5, co5, eo5⟩ := Kd.R_slice HO103.out; subst eo5))
    go_ret
    exact ⟨by first | rfl | (simp [errW_none, errW_some] <;> rfl) | (simp [*, errW_none, errW_some] <;> rfl), by repeat (first | (with_reducible first | exact HB.out | apply below_alloc | apply pw_below_drewN | apply below_drew1) | exact HB.out)⟩
  · rw [if_neg c3] at H
    have c3b0 : ((t101.length : Int) == 0) = false := beq_eq_false_iff_ne.mpr c3
    have c3b1 : ((t101.length : Int) != 0) = true := bne_iff_ne.mpr c3
    have c3b2 : ¬ (t101 = []) := fun h_ => c3 (by rw [h_]; rfl)
    obtain ⟨ji6, hji6⟩ : ∃ j_ : Int, (wrap64 ((t101.length : Int) - 1)) = j_ := ⟨_, rfl⟩
    replace H : (if 0 ≤ (ji6) then (if (ji6) < (t101.length : Int) then ((bits_LeadingZeros64.f (rd t101 (ji6))).bind fun t105 => (some (wrap64 ((wrap64 (64 * (t101.length : Int))) - t105)))) else (none)) else (none)) = some r := by first | (rw [hji6] at H; exact H) | (simp only [hji6] at H ⊢; exact H)
    (try rw [hji6] at A2)
    have hji6w : (IntKind.i64.wrap ((t101.length : Int) - 1)) = ji6 := (i64_w _).trans hji6
    by_cases c7 : 0 ≤ (ji6)
    · rw [if_pos c7] at H
      have c7b0 : decide (0 ≤ (ji6)) = true := decide_eq_true c7
      clear c7
      by_cases c8 : (ji6) < (t101.length : Int)
      · rw [if_pos c8] at H
        have c8b0 : decide ((ji6) < (t101.length : Int)) = true := decide_eq_true c8
        clear c8
        replace H := Option.bind_eq_some_iff.mp H
        obtain ⟨t105, A90, H⟩ := H
        replace H : (some (wrap64 ((wrap64 (64 * (t101.length : Int))) - t105))) = some r := H
        have A9 := Aside0.mk A90
        clear A90
        obtain rfl := Option.some.inj H
        simp only [Option.some.injEq, Prod.mk.injEq] at H
        obtain ⟨rfl⟩ := H
        go_enter Try.func24, Try.ntmps24
        go_wp2_with (first | ((with_reducible refine gate_callee (f := 40) rfl ?_); refine goesL_ (some 4) rfl rfl Try.func40 (by kernel_rfl) rfl #[.slice A0 l0.length c0] rfl (by (try simp only [List.map_toArray, List.map_cons, List.map_nil]); first | done | rfl | (simp only [List.length_drop, List.length_take]; rfl)) ?_; (with_reducible refine (nat_Trim.calls _ _ l0 t101 _ ?side1 ?side2 A2.out).mono ?_); (case side1 => repeat (first | exact HR0.out | (with_reducible refine Kd.C_alloc ?_ _) | (with_reducible refine Kd.C_drewN ?_ _) | (with_reducible refine Kd.C_drew ?_))); (case side2 => exact HC0.out); rintro e w10 ⟨v102, rfl, ho0, hb⟩; refine ⟨_, rfl, ?_⟩; have n0_ := Aside0.mk (Kd.R_lower ho0 (below_size (by repeat (first | (with_reducible first | exact HB.out | apply below_alloc | apply pw_below_drewN | apply below_drew1) | exact HB.out)))); have n1_ := Aside0.mk (below_step (by repeat (first | (with_reducible first | exact HB.out | apply below_alloc | apply pw_below_drewN | apply below_drew1) | exact HB.out)) hb); clear HB; have HO103 := n0_; have HB := n1_; clear n0_ n1_; (try clear hb); (try clear hb2); (try clear hk); (try clear hi); (try clear ho0); obtain ⟨Ao11, co11, eo11⟩ := Kd.R_slice HO103.out; subst eo11; have p104 : 0 ≤ ((ji6) : Int) := of_decide_eq_true (by first | (with_reducible assumption) | assumption); have q104 : (ji6) < (t101.length : Int) := of_decide_eq_true (by first | (with_reducible assumption) | assumption); obtain ⟨ad104, e104, hx104_0⟩ := Kd.at_int (Kd.R_reads' HO103.out).2.2 (ji6) p104 q104; cases e104; replace p104 := eq_true p104; replace q104 := eq_true q104) | ((with_reducible refine gate_callee (f := 50) rfl ?_); refine goesL_ (some 17) rfl rfl Try.func50 (by kernel_rfl) rfl #[.int .u64 (rd t101 (ji6))] rfl (by (try simp only [List.map_toArray, List.map_cons, List.map_nil]); first | done | (simp only [hji6]; rfl) | rfl | (simp only [List.length_drop, List.length_take]; rfl)) ?_; (with_reducible refine (bits_LeadingZeros64.calls (rd t101 (ji6)) t105 _ A9.out).mono ?_); rintro e w' ⟨rfl, ⟨nd, rfl⟩⟩; refine ⟨_, rfl, ?_⟩))
        go_ret
        exact ⟨by first | rfl | (simp [errW_none, errW_some] <;> rfl) | (simp only [← hji6]; first | rfl | (simp [errW_none, errW_some] <;> rfl)) | (simp [*, errW_none, errW_some] <;> rfl), by repeat (first | (with_reducible first | exact HB.out | apply below_alloc | apply pw_below_drewN | apply below_drew1) | exact HB.out)⟩
      · rw [if_neg c8] at H
        exact absurd H (by simp)
    · rw [if_neg c7] at H
      exact absurd H (by simp)
def nat_Bit.f (l0 : List Int) (a1 : Int) : Option (Int) := if a1 < 0 then (some 0) else (if (wrap64 (Int.tdiv a1 64)) ≥ (l0.length : Int) then (some 0) else (if 0 ≤ (wrap64 (Int.tdiv a1 64)) then (if (wrap64 (Int.tdiv a1 64)) < (l0.length : Int) then (if 0 ≤ (Int.tmod a1 64) then (some (wrap64 (Go.bits .and .u64 (shr .u64 (rd l0 (wrap64 (Int.tdiv a1 64))) (Int.tmod a1 64)) 1))) else (none)) else (none)) else (none)))
set_option maxHeartbeats 8000000 in
set_option maxRecDepth 100000 in
theorem nat_Bit.calls (A0 : Option Addr) (c0 : Nat) (l0 : List Int) (a1 : Int) (r : Int) (w : World) (hr0 : Kd.C (Kd.int .u64) w A0 l0.length l0) (hc0 : l0.length ≤ c0) (h : nat_Bit.f l0 a1 = some r) :
    Calls Try.prog 42 #[.slice A0 l0.length c0, .int .i64 a1] w fun e w' => e = .returned (.int .i64 r) ∧ Drawn0 w w' := by
  have HR0 := Aside0.mk hr0
  have HC0 := Aside0.mk hc0
  clear hr0 hc0
  have H : (if a1 < 0 then (some 0) else (if (wrap64 (Int.tdiv a1 64)) ≥ (l0.length : Int) then (some 0) else (if 0 ≤ (wrap64 (Int.tdiv a1 64)) then (if (wrap64 (Int.tdiv a1 64)) < (l0.length : Int) then (if 0 ≤ (Int.tmod a1 64) then (some (wrap64 (Go.bits .and .u64 (shr .u64 (rd l0 (wrap64 (Int.tdiv a1 64))) (Int.tmod a1 64)) 1))) else (none)) else (none)) else (none)))) = some r := h
  clear h
  by_cases c3 : a1 < 0
  · rw [if_pos c3] at H
    have c3b0 : decide (a1 < 0) = true := decide_eq_true c3
    clear c3
    obtain rfl := Option.some.inj H
    simp only [Option.some.injEq, Prod.mk.injEq] at H
    obtain ⟨rfl⟩ := H
    go_enter Try.func42, Try.ntmps42
    go_wp2
    go_ret
    exact ⟨by first | rfl | (simp; done) | (simp [*]; done), by repeat (first | exact Drawn0.refl _ | apply Drawn0.step)⟩
  · rw [if_neg c3] at H
    have c3b0 : decide (a1 < 0) = false := decide_eq_false c3
    clear c3
    by_cases c4 : (wrap64 (Int.tdiv a1 64)) ≥ (l0.length : Int)
    · rw [if_pos c4] at H
      have c4b0 : decide ((l0.length : Int) ≤ (wrap64 (Int.tdiv a1 64))) = true := decide_eq_true c4
      clear c4
      obtain rfl := Option.some.inj H
      simp only [Option.some.injEq, Prod.mk.injEq] at H
      obtain ⟨rfl⟩ := H
      go_enter Try.func42, Try.ntmps42
      go_wp2
      go_ret
      exact ⟨by first | rfl | (simp; done) | (simp [*]; done), by repeat (first | exact Drawn0.refl _ | apply Drawn0.step)⟩
    · rw [if_neg c4] at H
      have c4b0 : decide ((l0.length : Int) ≤ (wrap64 (Int.tdiv a1 64))) = false := decide_eq_false c4
      clear c4
      obtain ⟨ji5, hji5⟩ : ∃ j_ : Int, (wrap64 (Int.tdiv a1 64)) = j_ := ⟨_, rfl⟩
      replace H : (if 0 ≤ (ji5) then (if (ji5) < (l0.length : Int) then (if 0 ≤ (Int.tmod a1 64) then (some (wrap64 (Go.bits .and .u64 (shr .u64 (rd l0 (ji5)) (Int.tmod a1 64)) 1))) else (none)) else (none)) else (none)) = some r := by first | (rw [hji5] at H; exact H) | (simp only [hji5] at H ⊢; exact H)
      (try rw [hji5] at c4b0)
      have hji5w : (IntKind.i64.wrap (Int.tdiv a1 64)) = ji5 := (i64_w _).trans hji5
      by_cases c6 : 0 ≤ (ji5)
      · rw [if_pos c6] at H
        have c6b0 : decide (0 ≤ (ji5)) = true := decide_eq_true c6
        clear c6
        by_cases c7 : (ji5) < (l0.length : Int)
        · rw [if_pos c7] at H
          have c7b0 : decide ((ji5) < (l0.length : Int)) = true := decide_eq_true c7
          clear c7
          obtain ⟨ji8, hji8⟩ : ∃ j_ : Int, (Int.tmod a1 64) = j_ := ⟨_, rfl⟩
          replace H : (if 0 ≤ (ji8) then (some (wrap64 (Go.bits .and .u64 (shr .u64 (rd l0 (ji5)) (ji8)) 1))) else (none)) = some r := by first | (rw [hji8] at H; exact H) | (simp only [hji8] at H ⊢; exact H)
          by_cases c9 : 0 ≤ (ji8)
          · rw [if_pos c9] at H
            have c9b0 := eq_true c9
            have c9b1 : decide (0 ≤ (ji8)) = true := decide_eq_true c9
            clear c9
            obtain ⟨ji10, hji10⟩ : ∃ j_ : Int, (shr .u64 (rd l0 (ji5)) (ji8)) = j_ := ⟨_, rfl⟩
            replace H : (some (wrap64 (Go.bits .and .u64 (ji10) 1))) = some r := by first | (rw [hji10] at H; exact H) | (simp only [hji10] at H ⊢; exact H)
            have hji10_ : ((rd l0 (ji5)) / 2 ^ min (ji8).toNat 64) = ji10 := hji10
            have hji10z : (ji8) ≤ 64 → ((rd l0 (ji5)) / 2 ^ (ji8).toNat) = ji10 := shr_small hji10
            obtain rfl := Option.some.inj H
            simp only [Option.some.injEq, Prod.mk.injEq] at H
            obtain ⟨rfl⟩ := H
            have p106 : 0 ≤ ((ji5) : Int) := of_decide_eq_true (by first | (with_reducible assumption) | assumption)
            have q106 : (ji5) < (l0.length : Int) := of_decide_eq_true (by first | (with_reducible assumption) | assumption)
            obtain ⟨ad106, e106, hx106_0⟩ := Kd.at_int HR0.out (ji5) p106 q106
            cases e106
            replace p106 := eq_true p106
            replace q106 := eq_true q106
            go_enter Try.func42, Try.ntmps42
            go_wp2
            go_ret
            exact ⟨by first | rfl | (simp; done) | (simp only [← hji5, ← hji8, ← hji10] <;> (first | rfl | simp)) | (simp [*]; done), by repeat (first | exact Drawn0.refl _ | apply Drawn0.step)⟩
          · rw [if_neg c9] at H
            exact absurd H (by simp)
        · rw [if_neg c7] at H
          exact absurd H (by simp)
      · rw [if_neg c6] at H
        exact absurd H (by simp)
end Go.Proofs.Yteelppebdcgbpaa.Ca
namespace Go.Proofs.Yteelppebdcgbpaa.Ca
open Go.RowKit Go.Proofs.YteelppebdcgbpaaW.PrintWords Go.Proofs.YteelppebdcgbpaaW.PrintLast Go.Proofs.YteelppebdcgbpaaW.PrintMore
attribute [local go_sem] max2_int min2_int max_two min_two max_three min_three max_four min_four   -- for this text's walks alone
set_option linter.unusedVariables false
set_option linter.unusedSimpArgs false
end Go.Proofs.Yteelppebdcgbpaa.Ca
namespace Go.Proofs.Yteelppebdcgbpaa
set_option linter.unusedSimpArgs false
set_option linter.unusedVariables false
open Go.RowKit Go.Proofs.YteelppebdcgbpaaW.PrintWords Go.Proofs.YteelppebdcgbpaaW.PrintLast Go.Proofs.YteelppebdcgbpaaW.PrintMore
theorem blen_eq {x k : Nat} (h0 : 2 ^ k ≤ x) (h1 : x < 2 ^ (k + 1)) : blen x = k + 1 := by
  refine Nat.le_antisymm (blen_le.2 h1) ?_
  rcases Nat.lt_or_ge k (blen x) with h | h
  · exact h
  · have := blen_le.1 h; omega
theorem blen_top {x : Nat} (hx : x ≠ 0) : ∃ k, Lib.bitLen (gd (limbs x) (ln x - 1)) = k + 1 ∧ k < 64 ∧ blen x = 64 * (ln x - 1) + k + 1 := by
  have hl1 : ln x ≠ 0 := by have := ln_pos hx; omega
  have hll : (limbs x).length = ln x := rfl
  have htop0 : gd (limbs x) (ln x - 1) ≠ 0 := by
    refine limbs_last x _ ?_
    rw [List.getLast?_eq_getElem?]; exact gd_get (by omega)
  obtain ⟨k, hk, hk64, hk1, hk2⟩ := bitLen_spec (gd (limbs x) (ln x - 1)) htop0 ((limbs_b64 x).gd _)
  refine ⟨k, hk, hk64, ?_⟩
  obtain ⟨m, hm⟩ : ∃ m, ln x - 1 = m := ⟨_, rfl⟩
  have hlm : ln x = m + 1 := by omega
  rw [hm] at htop0 hk hk1 hk2
  rw [hm]
  have s := nv_split (limbs x) m (by omega)
  rw [nv_limbs, nv_drop (by omega), List.drop_eq_nil_of_le (by omega)] at s
  simp only [nv, Nat.mul_zero, Nat.add_zero] at s
  have hlo := nv_take_lt (limbs_b64 x) m
  generalize gd (limbs x) m = t at *
  generalize nv ((limbs x).take m) = lo at *
  rw [wpow] at s hlo
  have e1 : 2 ^ (64 * m + k) = 2 ^ (64 * m) * 2 ^ k := Nat.pow_add _ _ _
  have e2 : 2 ^ (64 * m + k + 1) = 2 ^ (64 * m) * 2 ^ (k + 1) := by rw [Nat.add_assoc, Nat.pow_add]
  have h1 := Nat.mul_le_mul_left (2 ^ (64 * m)) hk1
  have h2 := Nat.mul_le_mul_left (2 ^ (64 * m)) hk2
  have h2' : 2 ^ (64 * m) * (t + 1) ≤ 2 ^ (64 * m) * 2 ^ (k + 1) := h2
  rw [Nat.mul_add] at h2'
  exact blen_eq (by omega) (by omega)
theorem rd_ofN (x j : Nat) (h : j < ln x) : rd (ofN x) (j : Int) = ((gd (limbs x) j : Nat) : Int) := by
  rw [rd_getD, List.getD_eq_getElem?_getD]
  unfold ofN
  rw [List.getElem?_map, gd_get (show j < (limbs x).length from h)]; rfl
theorem rd_toN {m : Nat} {l : List Int} (h : okN m l) {j : Nat} (hj : j < l.length) : rd l (j : Int) = ((gd (toN l) j : Nat) : Int) := by
  rw [rd_getD, List.getD_eq_getElem?_getD, List.getElem?_eq_getElem hj, Option.getD_some]
  have := h.2 _ (List.getElem_mem hj)
  have e : gd (toN l) j = l[j].toNat := gd_some (by simp [toN, List.getElem?_eq_getElem hj])
  rw [e]; omega
theorem bits_pure {l0 : List Int} (h : okN 262144 l0) : Ca.nat_Bits.f l0 = some ((blen (nI l0) : Nat) : Int) := by
  have hln := ln_nI h
  unfold Ca.nat_Bits.f Ca.nat_Trim.f
  rw [if_pos h, Option.bind_some, ofN_length]
  by_cases h0 : nI l0 = 0
  · rw [h0, ln_zero, blen_zero]; rfl
  · have h1 : ln (nI l0) ≠ 0 := by have := ln_pos h0; omega
    have e : wrap64 ((ln (nI l0) : Int) - 1) = ((ln (nI l0) - 1 : Nat) : Int) := by rw [wr (by omega) (by omega)]; omega
    obtain ⟨k, hk, hk64, hb⟩ := blen_top h0
    have ht := (limbs_b64 (nI l0)).gd (ln (nI l0) - 1)
    rw [if_neg (by omega), e, if_pos (by omega), if_pos (by omega), rd_ofN _ _ (by omega)]
    unfold Ca.bits_LeadingZeros64.f
    rw [if_pos (by omega), Option.bind_some, Int.toNat_natCast, hk, hb]
    rw [wr (x := 64 * (ln (nI l0) : Int)) (by omega) (by omega), wr (by omega) (by omega)]
    congr 1; omega
theorem limb_part (xs : List Nat) (h : B64 xs) (q r w : Nat) (hr : r + w ≤ 64) : gd xs q / 2 ^ r % 2 ^ w = nv xs / 2 ^ (64 * q + r) % 2 ^ w := by
  have e1 : nv xs / 2 ^ (64 * q) = nv (xs.drop q) := by rw [nv_drop_div h, wpow]
  have e2 : nv xs / 2 ^ (64 * q + r) = nv (xs.drop q) / 2 ^ r := by
    rw [← e1, Nat.div_div_eq_div_mul, ← Nat.pow_add]
  rw [e2, nv_drop_any]
  generalize nv (xs.drop (q + 1)) = Y
  generalize gd xs q = x
  have e3 : 18446744073709551616 * Y = 2 ^ r * (2 ^ w * (2 ^ (64 - r - w) * Y)) := by
    rw [← Nat.mul_assoc, ← Nat.mul_assoc, show 2 ^ r * 2 ^ w * 2 ^ (64 - r - w) = 18446744073709551616 by rw [← Nat.pow_add, ← Nat.pow_add, show r + w + (64 - r - w) = 64 by omega]]
  rw [e3, Nat.add_mul_div_left _ _ (Nat.pow_pos (by omega)), Nat.add_mul_mod_self_left]
theorem limb_bit (xs : List Nat) (h : B64 xs) (i : Nat) : gd xs (i / 64) / 2 ^ (i % 64) % 2 = nv xs / 2 ^ i % 2 := by
  have e1 : nv xs / 2 ^ (64 * (i / 64)) = nv (xs.drop (i / 64)) := by rw [nv_drop_div h, wpow]
  have e2 : nv xs / 2 ^ i = nv (xs.drop (i / 64)) / 2 ^ (i % 64) := by
    rw [← e1, Nat.div_div_eq_div_mul, ← Nat.pow_add, show 64 * (i / 64) + i % 64 = i by omega]
  rw [e2, nv_drop_any]
  have hr : i % 64 < 64 := Nat.mod_lt _ (by omega)
  generalize i % 64 = r at *
  generalize nv (xs.drop (i / 64 + 1)) = Y
  generalize gd xs (i / 64) = x
  have e3 : 18446744073709551616 * Y = 2 ^ r * (2 * (2 ^ (63 - r) * Y)) := by
    rw [← Nat.mul_assoc, ← Nat.mul_assoc, show 2 ^ r * 2 * 2 ^ (63 - r) = 18446744073709551616 by rw [← Nat.pow_succ, ← Nat.pow_add, show r.succ + (63 - r) = 64 by omega]]
  rw [e3, Nat.add_mul_div_left _ _ (Nat.pow_pos (by omega))]; omega
theorem bit_pure {l0 : List Int} (a1 : Int) (h : okN 262144 l0) (ha : a1 ≤ 9223372036854775807) : Ca.nat_Bit.f l0 a1 = some (if a1 < 0 then 0 else ((nI l0 / 2 ^ a1.toNat % 2 : Nat) : Int)) := by
  unfold Ca.nat_Bit.f
  by_cases h0 : a1 < 0
  · rw [if_pos h0, if_pos h0]
  · obtain ⟨i, rfl⟩ : ∃ i : Nat, a1 = i := ⟨a1.toNat, by omega⟩
    have hl := h.1
    have e : Int.tdiv (i : Int) 64 = ((i / 64 : Nat) : Int) := by rw [Int.tdiv_eq_ediv_of_nonneg (by omega)]; omega
    have e2 : Int.tmod (i : Int) 64 = ((i % 64 : Nat) : Int) := by rw [Int.tmod_eq_emod_of_nonneg (by omega)]; omega
    have hr : i % 64 < 64 := Nat.mod_lt _ (by omega)
    rw [if_neg h0, if_neg h0, e, e2, wr (by omega) (by omega), Int.toNat_natCast]
    have hb := limb_bit (toN l0) h.b64 i
    unfold nI
    by_cases h1 : i / 64 < l0.length
    · rw [if_neg (by omega), if_pos (by omega), if_pos (by omega), if_pos (by omega), rd_toN h h1]
      have hg := h.b64.gd (i / 64)
      have es : shr .u64 ((gd (toN l0) (i / 64) : Nat) : Int) ((i % 64 : Nat) : Int) = ((gd (toN l0) (i / 64) / 2 ^ (i % 64) : Nat) : Int) := by
        unfold shr
        rw [Int.toNat_natCast, show min (i % 64) IntKind.u64.bits = i % 64 from Nat.min_eq_left (by have : IntKind.u64.bits = 64 := rfl; omega)]
        push_cast; rfl
      rw [es, nv_bits_and _ (Nat.lt_of_le_of_lt (Nat.div_le_self _ _) hg), hb, wr (by omega) (by omega)]
    · rw [if_pos (by omega)]
      rw [gd_ge (by rw [toN_length]; omega)] at hb
      simp at hb
      rw [← hb]; rfl
end Go.Proofs.Yteelppebdcgbpaa
namespace Go.Proofs.Yteelppebdcgbpaa.Cs
open Go.RowKit Go.Proofs.YteelppebdcgbpaaW.PrintWords Go.Proofs.YteelppebdcgbpaaW.PrintLast Go.Proofs.YteelppebdcgbpaaW.PrintMore
attribute [local go_sem] max2_int min2_int max_two min_two max_three min_three max_four min_four   -- for this text's walks alone
set_option linter.unusedVariables false
set_option linter.unusedSimpArgs false
def errW : Option Int → Value
  | none => .nilIface
  | some c => .iface 0 (.int .i64 c)
theorem errW_none : errW none = .nilIface := rfl
theorem errW_some (c : Int) : errW (some c) = .iface 0 (.int .i64 c) := rfl
end Go.Proofs.Yteelppebdcgbpaa.Cs
namespace Go.Proofs.Yteelppebdcgbpaa.Cs
open Go.RowKit Go.Proofs.YteelppebdcgbpaaW.PrintWords Go.Proofs.YteelppebdcgbpaaW.PrintLast Go.Proofs.YteelppebdcgbpaaW.PrintMore
attribute [local go_sem] max2_int min2_int max_two min_two max_three min_three max_four min_four   -- for this text's walks alone
set_option linter.unusedVariables false
set_option linter.unusedSimpArgs false
def clepsydraref01_Same.l0 : Nat → List Int → List Int → Int → Option (Bool)
  | 0, _, _, _ => none
  | k + 1, x0, x1, x5 => if x5 < (x0.length : Int) then (if 0 ≤ x5 then (if x5 < (x1.length : Int) then (if (rd x0 x5) = (rd x1 x5) then (clepsydraref01_Same.l0 k x0 x1 (wrap64 (x5 + 1))) else (some false)) else (none)) else (none)) else (some true)
def clepsydraref01_Same.f (k : Nat) (l0 : List Int) (l1 : List Int) : Option (Bool) := if (l0.length : Int) = (l1.length : Int) then (clepsydraref01_Same.l0 k l0 l1 0) else (some false)
set_option maxHeartbeats 8000000 in
set_option maxRecDepth 100000 in
theorem clepsydraref01_Same.calls (k : Nat) (A0 : Option Addr) (c0 : Nat) (l0 : List Int) (A1 : Option Addr) (c1 : Nat) (l1 : List Int) (r : Bool) (w : World) (hr0 : Kd.C (Kd.int .u64) w A0 l0.length l0) (hc0 : l0.length ≤ c0) (hr1 : Kd.C (Kd.int .u64) w A1 l1.length l1) (hc1 : l1.length ≤ c1) (h : clepsydraref01_Same.f k l0 l1 = some r) :
    Calls Try.prog 17 #[.slice A0 l0.length c0, .slice A1 l1.length c1] w fun e w' => e = .returned (.bool r) ∧ Drawn0 w w' := by
  have HR0 := Aside0.mk hr0
  have HC0 := Aside0.mk hc0
  clear hr0 hc0
  have HR1 := Aside0.mk hr1
  have HC1 := Aside0.mk hc1
  clear hr1 hc1
  have H : (if (l0.length : Int) = (l1.length : Int) then (clepsydraref01_Same.l0 k l0 l1 0) else (some false)) = some r := h
  clear h
  by_cases c3 : (l0.length : Int) = (l1.length : Int)
  · rw [if_pos c3] at H
    have c3b0 : ((l0.length : Int) == (l1.length : Int)) = true := beq_iff_eq.mpr c3
    have c3b1 : ((l0.length : Int) != (l1.length : Int)) = false := bne_eq_false_iff_eq.mpr c3
    have c3b2 : (l0.length == l1.length) = true := by first | simpa using c3 | (simp at c3 ⊢; omega)
    clear c3
    have H' := Aside0.mk H
    clear H
    go_enter Try.func17, Try.ntmps17
    go_wp2
    repeat (go_quiet (fail); try go_wp2)
    go_loopg [5] k (fun kq v5 w' => ∃ (x5_1 : Int), v5 = .int .i64 x5_1 ∧ Aside0 (clepsydraref01_Same.l0 kq l0 l1 x5_1 = some r) ∧ Aside0 (kq ≤ k) ∧ Drawn0 w w')
    case atStart => exact ⟨(0), (by first | rfl | (simp; done) | (simp [*]; done)), H', ⟨Nat.le_refl _⟩, by repeat (first | exact Drawn0.refl _ | apply Drawn0.step)⟩
    case round =>
      clear H'
      try clear c1
      try clear p2
      try clear c3
      try clear c3b0
      try clear c3b1
      try clear c3b2
      obtain ⟨x5_1, rfl, HA, HK1, ⟨m1, rfl⟩⟩ := hrel
      cases gk with
      | zero => exact absurd HA.out (by simp [clepsydraref01_Same.l0])
      | succ k1 =>
        have H := HA.out
        clear HA
        simp only [clepsydraref01_Same.l0] at H
        by_cases c4 : x5_1 < (l0.length : Int)
        · rw [if_pos c4] at H
          have c4b0 : decide (x5_1 < (l0.length : Int)) = true := decide_eq_true c4
          clear c4
          by_cases c5 : 0 ≤ x5_1
          · rw [if_pos c5] at H
            have c5b0 : decide (0 ≤ x5_1) = true := decide_eq_true c5
            clear c5
            by_cases c6 : x5_1 < (l1.length : Int)
            · rw [if_pos c6] at H
              have c6b0 : decide (x5_1 < (l1.length : Int)) = true := decide_eq_true c6
              clear c6
              by_cases c7 : (rd l0 x5_1) = (rd l1 x5_1)
              · rw [if_pos c7] at H
                have c7b0 : ((rd l0 x5_1) == (rd l1 x5_1)) = true := beq_iff_eq.mpr c7
                have c7b1 : ((rd l0 x5_1) != (rd l1 x5_1)) = false := bne_eq_false_iff_eq.mpr c7
                clear c7
                have H' := Aside0.mk H
                clear H
                have p101 : 0 ≤ (x5_1 : Int) := of_decide_eq_true (by first | (with_reducible assumption) | assumption)
                have q101 : x5_1 < (l0.length : Int) := of_decide_eq_true (by first | (with_reducible assumption) | assumption)
                obtain ⟨ad101, e101, hx101_0⟩ := Kd.at_int HR0.out x5_1 p101 q101
                cases e101
                replace p101 := eq_true p101
                replace q101 := eq_true q101
                have p102 : 0 ≤ (x5_1 : Int) := of_decide_eq_true (by first | (with_reducible assumption) | assumption)
                have q102 : x5_1 < (l1.length : Int) := of_decide_eq_true (by first | (with_reducible assumption) | assumption)
                obtain ⟨ad102, e102, hx102_0⟩ := Kd.at_int HR1.out x5_1 p102 q102
                cases e102
                replace p102 := eq_true p102
                replace q102 := eq_true q102
                go_wp2
                repeat (go_quiet (fail); try go_wp2)
                go_roundg k1
                case measure => have := HK1.out; omega
                case rel => exact ⟨(wrap64 (x5_1 + 1)), (by first | rfl | (simp; done) | (simp [*]; done)), H', ⟨by have := HK1.out; omega⟩, by repeat (first | exact Drawn0.refl _ | apply Drawn0.step)⟩
              · rw [if_neg c7] at H
                have c7b0 : ((rd l0 x5_1) == (rd l1 x5_1)) = false := beq_eq_false_iff_ne.mpr c7
                have c7b1 : ((rd l0 x5_1) != (rd l1 x5_1)) = true := bne_iff_ne.mpr c7
                obtain rfl := Option.some.inj H
                simp only [Option.some.injEq, Prod.mk.injEq] at H
                obtain ⟨rfl⟩ := H
                have p101 : 0 ≤ (x5_1 : Int) := of_decide_eq_true (by first | (with_reducible assumption) | assumption)
                have q101 : x5_1 < (l0.length : Int) := of_decide_eq_true (by first | (with_reducible assumption) | assumption)
                obtain ⟨ad101, e101, hx101_0⟩ := Kd.at_int HR0.out x5_1 p101 q101
                cases e101
                replace p101 := eq_true p101
                replace q101 := eq_true q101
                have p102 : 0 ≤ (x5_1 : Int) := of_decide_eq_true (by first | (with_reducible assumption) | assumption)
                have q102 : x5_1 < (l1.length : Int) := of_decide_eq_true (by first | (with_reducible assumption) | assumption)
                obtain ⟨ad102, e102, hx102_0⟩ := Kd.at_int HR1.out x5_1 p102 q102
                cases e102
                replace p102 := eq_true p102
                replace q102 := eq_true q102
                go_wp2
                repeat (go_quiet (fail); try go_wp2)
                go_ret
                exact ⟨by first | rfl | (simp; done) | (simp [*]; done), by repeat (first | exact Drawn0.refl _ | apply Drawn0.step)⟩
            · rw [if_neg c6] at H
              exact absurd H (by simp)
          · rw [if_neg c5] at H
            exact absurd H (by simp)
        · rw [if_neg c4] at H
          have c4b0 : decide (x5_1 < (l0.length : Int)) = false := decide_eq_false c4
          clear c4
          obtain rfl := Option.some.inj H
          simp only [Option.some.injEq, Prod.mk.injEq] at H
          obtain ⟨rfl⟩ := H
          go_wp2
          repeat (go_quiet (fail); try go_wp2)
          go_ret
          exact ⟨by first | rfl | (simp; done) | (simp [*]; done), by repeat (first | exact Drawn0.refl _ | apply Drawn0.step)⟩
  · rw [if_neg c3] at H
    have c3b0 : ((l0.length : Int) == (l1.length : Int)) = false := beq_eq_false_iff_ne.mpr c3
    have c3b1 : ((l0.length : Int) != (l1.length : Int)) = true := bne_iff_ne.mpr c3
    have c3b2 : (l0.length == l1.length) = false := by first | simpa using c3 | (simp at c3 ⊢; omega)
    obtain rfl := Option.some.inj H
    simp only [Option.some.injEq, Prod.mk.injEq] at H
    obtain ⟨rfl⟩ := H
    go_enter Try.func17, Try.ntmps17
    go_wp2
    repeat (go_quiet (fail); try go_wp2)
    go_ret
    exact ⟨by first | rfl | (simp; done) | (simp [*]; done), by repeat (first | exact Drawn0.refl _ | apply Drawn0.step)⟩
end Go.Proofs.Yteelppebdcgbpaa.Cs
namespace Go.Proofs.Yteelppebdcgbpaa.Cs
open Go.RowKit Go.Proofs.YteelppebdcgbpaaW.PrintWords Go.Proofs.YteelppebdcgbpaaW.PrintLast Go.Proofs.YteelppebdcgbpaaW.PrintMore
attribute [local go_sem] max2_int min2_int max_two min_two max_three min_three max_four min_four   -- for this text's walks alone
set_option linter.unusedVariables false
set_option linter.unusedSimpArgs false
end Go.Proofs.Yteelppebdcgbpaa.Cs
namespace Go.Proofs.Yteelppebdcgbpaa
set_option linter.unusedSimpArgs false
set_option linter.unusedVariables false
open Go.RowKit Go.Proofs.YteelppebdcgbpaaW.PrintWords Go.Proofs.YteelppebdcgbpaaW.PrintLast Go.Proofs.YteelppebdcgbpaaW.PrintMore
theorem same_loop {l0 l1 : List Int} (hl : l0.length = l1.length) (hm : l0.length ≤ 9223372036854775807) (d : Nat) : ∀ (k i : Nat), i + d = l0.length → d < k → Cs.clepsydraref01_Same.l0 k l0 l1 i = some (decide (l0.drop i = l1.drop i)) := by
  induction d with
  | zero =>
    intro k i hi hk
    obtain ⟨k, rfl⟩ : ∃ m, k = m + 1 := ⟨k - 1, by omega⟩
    simp only [Cs.clepsydraref01_Same.l0]
    rw [if_neg (by omega), List.drop_eq_nil_of_le (by omega), List.drop_eq_nil_of_le (by omega)]; simp
  | succ d ih =>
    intro k i hi hk
    obtain ⟨k, rfl⟩ : ∃ m, k = m + 1 := ⟨k - 1, by omega⟩
    have h0 : i < l0.length := by omega
    have h1 : i < l1.length := by omega
    have hih := ih k (i + 1) (by omega) (by omega)
    simp only [Cs.clepsydraref01_Same.l0]
    rw [if_pos (by omega), if_pos (by omega), if_pos (by omega), List.drop_eq_getElem_cons h0, List.drop_eq_getElem_cons h1, rd_getD, rd_getD, List.getD_eq_getElem?_getD, List.getD_eq_getElem?_getD, List.getElem?_eq_getElem h0, List.getElem?_eq_getElem h1, Option.getD_some, Option.getD_some, wn1 (by omega), hih]
    by_cases he : l0[i] = l1[i]
    · rw [if_pos he]; simp only [List.cons.injEq, he, true_and]
    · rw [if_neg he]; simp only [List.cons.injEq, he, false_and, decide_false]
theorem same_pure {l0 l1 : List Int} (hm : l0.length ≤ 9223372036854775807) : ∀ k, l0.length < k → Cs.clepsydraref01_Same.f k l0 l1 = some (decide (l0 = l1)) := by
  intro k hk
  unfold Cs.clepsydraref01_Same.f
  by_cases h : l0.length = l1.length
  · rw [if_pos (by omega)]
    have := same_loop h hm l0.length k 0 (by omega) (by omega)
    simpa using this
  · rw [if_neg (by omega)]
    have : ¬ l0 = l1 := fun e => h (by rw [e])
    simp [this]
section
variable {A0 A1 : Option Addr} {c0 c1 : Nat} {l0 l1 : List Int} {w : World}
theorem same_giv {r : Bool} (hr0 : Kd.C (Kd.int .u64) w A0 l0.length l0) (hc0 : l0.length ≤ c0) (hr1 : Kd.C (Kd.int .u64) w A1 l1.length l1) (hc1 : l1.length ≤ c1) (h : some (decide (l0 = l1)) = some r) :
    Calls Try.prog 17 #[.slice A0 l0.length c0, .slice A1 l1.length c1] w fun e w' => e = .returned (.bool r) ∧ Drawn0 w w' :=
  Cs.clepsydraref01_Same.calls (l0.length + 1) _ _ _ _ _ _ _ _ hr0 hc0 hr1 hc1 ((same_pure hr0.2.1 _ (by omega)).trans h)
theorem bits_giv {r : Int} (hr0 : Kd.C (Kd.int .u64) w A0 l0.length l0) (hc0 : l0.length ≤ c0) (h : (if okN 262144 l0 then some ((blen (nI l0) : Nat) : Int) else none) = some r) :
    Calls Try.prog 24 #[.slice A0 l0.length c0] w fun e w' => e = .returned (.int .i64 r) ∧ Below w.heap.size w w' := by
  obtain ⟨h0, rfl⟩ := of_ite h
  exact Ca.nat_Bits.calls _ _ _ _ _ hr0 hc0 (bits_pure h0)
theorem bit_giv {a1 r : Int} (hr0 : Kd.C (Kd.int .u64) w A0 l0.length l0) (hc0 : l0.length ≤ c0) (h : (if okN 262144 l0 ∧ a1 ≤ 9223372036854775807 then some (if a1 < 0 then 0 else ((nI l0 / 2 ^ a1.toNat % 2 : Nat) : Int)) else none) = some r) :
    Calls Try.prog 42 #[.slice A0 l0.length c0, .int .i64 a1] w fun e w' => e = .returned (.int .i64 r) ∧ Drawn0 w w' := by
  obtain ⟨h0, rfl⟩ := of_ite h
  exact Ca.nat_Bit.calls _ _ _ _ _ _ hr0 hc0 (bit_pure a1 h0.1 h0.2)
end
end Go.Proofs.Yteelppebdcgbpaa
namespace Go.Proofs.Yteelppebdcgbpaa
set_option linter.unusedSimpArgs false
set_option linter.unusedVariables false
open Go.RowKit Go.Proofs.YteelppebdcgbpaaW.PrintWords Go.Proofs.YteelppebdcgbpaaW.PrintLast Go.Proofs.YteelppebdcgbpaaW.PrintMore
def cI (xs : List Nat) : List Int := xs.map fun (x : Nat) => (x : Int)
theorem cI_length (xs : List Nat) : (cI xs).length = xs.length := by simp [cI]
theorem cI_toN {l : List Int} (h : ∀ x ∈ l, 0 ≤ x) : cI (toN l) = l := by
  simp only [cI, toN, List.map_map]
  conv => rhs; rw [← List.map_id l]
  refine List.map_congr_left fun x hx => ?_
  have := h x hx
  simp only [Function.comp, id]; omega
theorem toN_cI (xs : List Nat) : toN (cI xs) = xs := by simp [cI, toN, Function.comp_def]
theorem C_of_Rd {k : IntKind} {w : World} {A : Option Addr} {n c : Nat} {xs : List Nat} (h : Rd k w A n c xs) : Kd.C (Kd.int k) w A (cI xs).length (cI xs) := by
  refine Kd.C_of_reads (d := (0 : Int)) ⟨rfl, by rw [cI_length, h.len]; exact h.max, fun hn => ?_⟩
  rw [cI_length, h.len] at hn
  obtain ⟨ad, e, _, hc⟩ := h.form hn
  refine ⟨ad, e, fun j hj => ?_⟩
  rw [cI_length, h.len] at hj
  rw [hc j hj]
  have : (cI xs).getD j 0 = ((gd xs j : Nat) : Int) := by
    rw [List.getD_eq_getElem?_getD]; unfold cI
    rw [List.getElem?_map, gd_get (by rw [h.len]; exact hj)]; rfl
  rw [this]
theorem Own.of_R {k : IntKind} {e : Nat} {w : World} {base : Nat} {ok : Nat → Prop} {v : Value} {l : List Int} (h : Kd.R (Kd.int k) e w base ok v l) (h0 : ∀ x ∈ l, 0 ≤ x) : ∃ A c, v = .slice A l.length c ∧ Own k e w base A l.length c (toN l) := by
  obtain ⟨A, c, rfl⟩ := Kd.R_slice h
  refine ⟨A, c, rfl, ?_⟩
  have ho := Kd.own_of_R h
  have e1 : encs (Value.int k) l = vs k (toN l) := by
    unfold encs vs
    rw [show toN l = l.map Int.toNat from rfl, List.map_map]
    refine List.map_congr_left fun x hx => ?_
    have := h0 x hx
    simp only [Function.comp]; congr 1; omega
  rw [e1] at ho
  exact ho
theorem cI_ok {xs : List Nat} {m : Nat} (hb : B64 xs) (hl : xs.length ≤ m) : okN m (cI xs) := by
  refine ⟨by rw [cI_length]; exact hl, fun x hx => ?_⟩
  simp only [cI, List.mem_map] at hx
  obtain ⟨y, hy, rfl⟩ := hx
  have := hb y hy
  omega
theorem nI_cI (xs : List Nat) : nI (cI xs) = nv xs := by unfold nI; rw [toN_cI]
theorem bits_any (w : World) {A : Option Addr} {n c x : Nat} (hx : NA w A n c x) (hn : n ≤ 262144) (hc : n ≤ c) :
    Calls Try.prog 24 #[.slice A n c] w fun e w' => e = .returned (.int .i64 ((blen x : Nat) : Int)) ∧ Below w.heap.size w w' := by
  obtain ⟨xs, h, b, rfl⟩ := hx
  have hl := h.len
  have := bits_giv (A0 := A) (c0 := c) (l0 := cI xs) (w := w) (C_of_Rd h) (by rw [cI_length, hl]; exact hc) (by rw [if_pos (cI_ok b (by omega)), nI_cI])
  rwa [cI_length, hl] at this
theorem bit_any (w : World) {A : Option Addr} {n c x : Nat} (i : Nat) (hx : NA w A n c x) (hn : n ≤ 262144) (hi : i ≤ 9223372036854775807) (hc : n ≤ c) :
    Calls Try.prog 42 #[.slice A n c, .int .i64 i] w fun e w' => e = .returned (.int .i64 ((x / 2 ^ i % 2 : Nat) : Int)) ∧ Drawn0 w w' := by
  obtain ⟨xs, h, b, rfl⟩ := hx
  have hl := h.len
  have := bit_giv (A0 := A) (c0 := c) (l0 := cI xs) (w := w) (a1 := (i : Int)) (r := ((nv xs / 2 ^ i % 2 : Nat) : Int)) (C_of_Rd h) (by rw [cI_length, hl]; exact hc) (by rw [if_pos ⟨cI_ok b (by omega), by omega⟩, nI_cI, if_neg (by omega), Int.toNat_natCast])
  rwa [cI_length, hl] at this
end Go.Proofs.Yteelppebdcgbpaa
namespace Go.Proofs.Yteelppebdcgbpaa
set_option linter.unusedSimpArgs false
set_option linter.unusedVariables false
open Go.RowKit
theorem ok {n m : Nat} (h : ln n ≤ m) (hm : m ≤ 262144) : okN 262144 (ofN n) := okN_ofN (Nat.le_trans h hm)
end Go.Proofs.Yteelppebdcgbpaa
namespace Go.Proofs.Yteelppebdcgbpaa.D
def nv : List Nat → Nat
  | [] => 0
  | x :: xs => x + 65536 * nv xs
def dgs (n : Nat) : List Nat := if h : n = 0 then [] else (n % 65536) :: dgs (n / 65536)
termination_by n
decreasing_by exact Nat.div_lt_self (Nat.pos_of_ne_zero h) (by omega)
def D16 (xs : List Nat) : Prop := ∀ x ∈ xs, x < 65536
def ln (n : Nat) : Nat := (dgs n).length
theorem dgs_zero : dgs 0 = [] := by rw [dgs]; simp
theorem dgs_pos {n : Nat} (h : n ≠ 0) : dgs n = (n % 65536) :: dgs (n / 65536) := by rw [dgs]; simp [h]
theorem D16.nil : D16 [] := fun x hx => by cases hx
theorem D16.cons {x : Nat} {xs : List Nat} (h : x < 65536) (hs : D16 xs) : D16 (x :: xs) := fun y hy => by
  rcases List.mem_cons.1 hy with rfl | hy
  · exact h
  · exact hs y hy
theorem D16.head {x : Nat} {xs : List Nat} (h : D16 (x :: xs)) : x < 65536 := h x (by simp)
theorem D16.tail {x : Nat} {xs : List Nat} (h : D16 (x :: xs)) : D16 xs := fun y hy => h y (by simp [hy])
theorem D16.get {xs : List Nat} (h : D16 xs) {j x : Nat} (hx : xs[j]? = some x) : x < 65536 := h x (List.mem_of_getElem? hx)
theorem D16.gd {xs : List Nat} (h : D16 xs) (j : Nat) : gd xs j < 65536 := by
  rcases Nat.lt_or_ge j xs.length with hj | hj
  · exact h.get (gd_get hj)
  · rw [gd_ge hj]; omega
theorem D16.take {xs : List Nat} (h : D16 xs) (k : Nat) : D16 (xs.take k) := fun x hx => h x (List.mem_of_mem_take hx)
theorem D16.append {xs ys : List Nat} (h : D16 xs) (h' : D16 ys) : D16 (xs ++ ys) := fun x hx => by
  rcases List.mem_append.1 hx with hx | hx
  · exact h x hx
  · exact h' x hx
theorem D16.set {xs : List Nat} (h : D16 xs) {j y : Nat} (hy : y < 65536) : D16 (xs.set j y) := fun x hx => by
  rcases List.mem_or_eq_of_mem_set hx with hx | rfl
  · exact h x hx
  · exact hy
theorem D16.replicate (n : Nat) : D16 (List.replicate n 0) := fun x hx => by rw [List.eq_of_mem_replicate hx]; omega
theorem dgs_b64 (n : Nat) : D16 (dgs n) := by
  induction n using Nat.strongRecOn with
  | ind n ih =>
    by_cases h : n = 0
    · subst h; rw [dgs_zero]; exact D16.nil
    · rw [dgs_pos h]; exact D16.cons (Nat.mod_lt _ (by omega)) (ih _ (Nat.div_lt_self (Nat.pos_of_ne_zero h) (by omega)))
theorem nv_dgs (n : Nat) : nv (dgs n) = n := by
  induction n using Nat.strongRecOn with
  | ind n ih =>
    by_cases h : n = 0
    · subst h; rw [dgs_zero]; rfl
    · rw [dgs_pos h, nv, ih _ (Nat.div_lt_self (Nat.pos_of_ne_zero h) (by omega))]; omega
theorem nv_append (xs ys : List Nat) : nv (xs ++ ys) = nv xs + 65536 ^ xs.length * nv ys := by
  induction xs with
  | nil => simp [nv]
  | cons x xs ih => simp only [List.cons_append, nv, ih, List.length_cons, Nat.pow_succ]; rw [Nat.mul_add, Nat.mul_comm (65536 ^ xs.length) 65536, Nat.mul_assoc]; omega
theorem nv_lt {xs : List Nat} (h : D16 xs) : nv xs < 65536 ^ xs.length := by
  induction xs with
  | nil => simp [nv]
  | cons x xs ih =>
    have := ih h.tail
    have hx := h.head
    simp only [nv, List.length_cons, Nat.pow_succ]
    omega
theorem nv_replicate (n : Nat) : nv (List.replicate n 0) = 0 := by
  induction n with
  | zero => rfl
  | succ n ih => simp [List.replicate_succ, nv, ih]
theorem dgs_nv {xs : List Nat} (h : D16 xs) (hl : ∀ x, xs.getLast? = some x → x ≠ 0) : dgs (nv xs) = xs := by
  induction xs with
  | nil => simp [nv, dgs_zero]
  | cons x xs ih =>
    have hx := h.head
    have e : nv xs = 0 → xs = [] := by
      intro h0
      rcases xs with _ | ⟨y, ys⟩
      · rfl
      · exfalso
        have hl' : ∀ z, (y :: ys).getLast? = some z → z ≠ 0 := fun z hz => hl z (by simpa [List.getLast?_cons_cons] using hz)
        have := ih h.tail hl'
        rw [h0, dgs_zero] at this
        cases this
    have hne : nv (x :: xs) ≠ 0 := by
      intro h0
      simp only [nv] at h0
      have h1 : nv xs = 0 := by omega
      have h2 := e h1
      subst h2
      exact hl x (by simp) (by omega)
    rw [dgs_pos hne]
    have e1 : nv (x :: xs) % 65536 = x := by simp only [nv]; omega
    have e2 : nv (x :: xs) / 65536 = nv xs := by simp only [nv]; omega
    rw [e1, e2]
    rcases xs with _ | ⟨y, ys⟩
    · simp [nv, dgs_zero]
    · rw [ih h.tail fun z hz => hl z (by simpa [List.getLast?_cons_cons] using hz)]
theorem ln_zero : ln 0 = 0 := by unfold ln; rw [dgs_zero]; rfl
theorem ln_pos {n : Nat} (h : n ≠ 0) : ln n = ln (n / 65536) + 1 := by unfold ln; rw [dgs_pos h]; rfl
theorem ln_le {n k : Nat} : ln n ≤ k ↔ n < 65536 ^ k := by
  induction k generalizing n with
  | zero =>
    by_cases h : n = 0
    · subst h; simp [ln_zero]
    · rw [ln_pos h]; simp; omega
  | succ k ih =>
    by_cases h : n = 0
    · subst h; rw [ln_zero]; exact ⟨fun _ => Nat.pow_pos (by omega), fun _ => by omega⟩
    · rw [ln_pos h, Nat.add_le_add_iff_right, ih, Nat.pow_succ, Nat.div_lt_iff_lt_mul (by omega)]
theorem ln_mono {a b : Nat} (h : a ≤ b) : ln a ≤ ln b := ln_le.2 (Nat.lt_of_le_of_lt h (ln_le.1 (Nat.le_refl _)))
theorem lt_ln (n : Nat) : n < 65536 ^ ln n := ln_le.1 (Nat.le_refl _)
theorem ln_nv {xs : List Nat} (h : D16 xs) : ln (nv xs) ≤ xs.length := ln_le.2 (nv_lt h)
theorem ln_add (a b k : Nat) (ha : ln a ≤ k) (hb : ln b ≤ k) : ln (a + b) ≤ k + 1 := by
  rw [ln_le] at *; rw [Nat.pow_succ]; omega
theorem ln_mul (a b : Nat) : ln (a * b) ≤ ln a + ln b := by
  rw [ln_le, Nat.pow_add]
  exact Nat.mul_lt_mul_of_lt_of_le (lt_ln a) (Nat.le_of_lt (lt_ln b)) (Nat.zero_lt_of_lt (lt_ln b))
theorem ln_div (a b : Nat) : ln (a / b) ≤ ln a := ln_mono (Nat.div_le_self _ _)
theorem ln_small {n : Nat} (h : n < 65536) : ln n ≤ 1 := ln_le.2 (by simpa using h)
theorem nv_take_succ {xs : List Nat} {k : Nat} (h : k < xs.length) : nv (xs.take (k + 1)) = nv (xs.take k) + 65536 ^ k * gd xs k := by
  rw [List.take_succ_eq_append_getElem h, nv_append, List.length_take, Nat.min_eq_left (by omega)]
  rw [gd_lt h]; simp [nv]
theorem nv_take_ge {xs : List Nat} {k : Nat} (h : xs.length ≤ k) : nv (xs.take (k + 1)) = nv (xs.take k) + 65536 ^ k * gd xs k := by
  rw [List.take_of_length_le (by omega), List.take_of_length_le h]
  rw [gd_ge h]; simp
theorem nv_take (xs : List Nat) (k : Nat) : nv (xs.take (k + 1)) = nv (xs.take k) + 65536 ^ k * gd xs k := by
  rcases Nat.lt_or_ge k xs.length with h | h
  · exact nv_take_succ h
  · exact nv_take_ge h
theorem nv_take_lt {xs : List Nat} (h : D16 xs) (k : Nat) : nv (xs.take k) < 65536 ^ k := by
  refine Nat.lt_of_lt_of_le (nv_lt (h.take k)) (Nat.pow_le_pow_right (by omega) ?_)
  rw [List.length_take]; omega
theorem nv_split (xs : List Nat) (k : Nat) (h : k ≤ xs.length) : nv xs = nv (xs.take k) + 65536 ^ k * nv (xs.drop k) := by
  have := nv_append (xs.take k) (xs.drop k)
  rw [List.take_append_drop, List.length_take, Nat.min_eq_left h] at this
  exact this
theorem lt_digit {a b P X Y : Nat} (ha : a < P) (h : X < Y) : a + P * X < b + P * Y := by
  have := Nat.mul_le_mul_left P (show X + 1 ≤ Y from h)
  rw [Nat.mul_add] at this; omega
def Alike (xs ys : List Nat) (k : Nat) : Prop := ∃ H, nv xs = nv (xs.take k) + 65536 ^ k * H ∧ nv ys = nv (ys.take k) + 65536 ^ k * H
theorem Alike.start {xs ys : List Nat} {k : Nat} (h : xs.length ≤ k) (h' : ys.length ≤ k) : Alike xs ys k := ⟨0, by rw [List.take_of_length_le h]; simp, by rw [List.take_of_length_le h']; simp⟩
theorem Alike.zero {xs ys : List Nat} (h : Alike xs ys 0) : nv xs = nv ys := by
  obtain ⟨H, h1, h2⟩ := h
  simp [nv] at h1 h2; omega
theorem Alike.down {xs ys : List Nat} {k : Nat} (h : Alike xs ys (k + 1)) :
    ∃ H, nv xs = nv (xs.take k) + 65536 ^ k * (gd xs k + 65536 * H) ∧ nv ys = nv (ys.take k) + 65536 ^ k * (gd ys k + 65536 * H) := by
  obtain ⟨H, h1, h2⟩ := h
  refine ⟨H, ?_, ?_⟩
  · rw [h1, nv_take, Nat.pow_succ, Nat.mul_add, Nat.mul_assoc]; omega
  · rw [h2, nv_take, Nat.pow_succ, Nat.mul_add, Nat.mul_assoc]; omega
theorem Alike.lt {xs ys : List Nat} {k : Nat} (h : Alike xs ys (k + 1)) (hx : D16 xs) (hd : gd xs k < gd ys k) : nv xs < nv ys := by
  obtain ⟨H, h1, h2⟩ := h.down
  rw [h1, h2]
  exact lt_digit (nv_take_lt hx k) (by omega)
theorem Alike.symm {xs ys : List Nat} {k : Nat} (h : Alike xs ys k) : Alike ys xs k := by
  obtain ⟨H, h1, h2⟩ := h
  exact ⟨H, h2, h1⟩
theorem Alike.next {xs ys : List Nat} {k : Nat} (h : Alike xs ys (k + 1)) (hd : gd xs k = gd ys k) : Alike xs ys k := by
  obtain ⟨H, h1, h2⟩ := h.down
  exact ⟨gd xs k + 65536 * H, h1, by rw [hd]; exact h2⟩
theorem trim_done {xs : List Nat} {k : Nat} (h : D16 xs) (hk : k < xs.length) (h0 : gd xs k ≠ 0) (hv : nv (xs.take (k + 1)) = nv xs) : dgs (nv xs) = xs.take (k + 1) := by
  rw [← hv]
  refine dgs_nv (h.take _) fun x hx => ?_
  rw [List.take_succ_eq_append_getElem hk, List.getLast?_concat] at hx
  rw [gd_lt hk] at h0
  simp only [Option.some.injEq] at hx
  rw [← hx]; exact h0
theorem trim_more {xs : List Nat} {k : Nat} (h0 : gd xs k = 0) (hv : nv (xs.take (k + 1)) = nv xs) : nv (xs.take k) = nv xs := by
  rw [nv_take, h0] at hv; simpa using hv
theorem nv_set {zs : List Nat} {j : Nat} (y : Nat) (h : j < zs.length) : nv (zs.set j y) + 65536 ^ j * gd zs j = nv zs + 65536 ^ j * y := by
  induction zs generalizing j with
  | nil => simp at h
  | cons z zs ih =>
    cases j with
    | zero => simp [nv, gd]; omega
    | succ j =>
      have := ih (j := j) (by simpa using h)
      have e : gd (z :: zs) (j + 1) = gd zs j := by simp [gd]
      simp only [List.set_cons_succ, nv, e, Nat.pow_succ]
      have e1 : 65536 ^ j * 65536 * gd zs j = 65536 * (65536 ^ j * gd zs j) := by rw [Nat.mul_comm (65536 ^ j) 65536, Nat.mul_assoc]
      have e2 : 65536 ^ j * 65536 * y = 65536 * (65536 ^ j * y) := by rw [Nat.mul_comm (65536 ^ j) 65536, Nat.mul_assoc]
      rw [e1, e2]; omega
theorem gd_le (zs : List Nat) (j : Nat) : 65536 ^ j * gd zs j ≤ nv zs := by
  induction zs generalizing j with
  | nil => simp [gd]
  | cons z zs ih =>
    cases j with
    | zero => simp [nv, gd]
    | succ j =>
      have e : gd (z :: zs) (j + 1) = gd zs j := by simp [gd]
      have := ih j
      rw [e, Nat.pow_succ, Nat.mul_comm (65536 ^ j) 65536, Nat.mul_assoc]
      simp only [nv]; omega
theorem gd_small {zs : List Nat} {j c : Nat} (h : nv zs < 65536 ^ j * c) : gd zs j < c := by
  have := gd_le zs j
  exact Nat.lt_of_mul_lt_mul_left (Nat.lt_of_le_of_lt this h)
end Go.Proofs.Yteelppebdcgbpaa.D
namespace Go.Proofs.Yteelppebdcgbpaa
set_option linter.unusedSimpArgs false
set_option linter.unusedVariables false
open Go.RowKit
set_option maxHeartbeats 400000 in
theorem at_any (w : World) {A : Option Addr} {n c : Nat} {xs : List Nat} (h : Rd .i64 w A n c xs) (i : Nat) (hi : i ≤ 4611686018427387904) :
    Calls Try.prog 72 #[.slice A n c, .int .i64 i] w fun e w' => e = .returned (.int .i64 ((gd xs i : Nat) : Int)) ∧ w = w' := by
  by_cases hlt : i < n
  · obtain ⟨ad, rfl, hb, hc⟩ := h.form (by omega)
    have hx := hc i hlt
    have hm := h.max
    have hcap := h.cap
    clear hc h
    go_enter Try.func72, Try.ntmps72
    go_wp2
    go_ret
    exact ⟨rfl, rfl⟩
  · have H := Lib.hid (show gd xs i = 0 from gd_ge (by rw [h.len]; omega))
    have hm := h.max
    have hcap := h.cap
    clear h
    go_enter Try.func72, Try.ntmps72
    go_wp2
    go_ret
    exact ⟨by rw [H.out]; rfl, rfl⟩
set_option maxHeartbeats 400000 in
theorem cmp3_any (w : World) {A B : Option Addr} {n c m d : Nat} {xs ys : List Nat} (hx : Rd .i64 w A n c xs) (bx : D.D16 xs) (hy : Rd .i64 w B m d ys) (by' : D.D16 ys) (hn : n ≤ 1048576) (hm : m ≤ 1048576) :
    Calls Try.prog 48 #[.slice A n c, .slice B m d] w fun e w' => e = .returned (.int .i64 (cmpN (D.nv xs) (D.nv ys))) ∧ w = w' := by
  have hal := D.Alike.start (xs := xs) (ys := ys) (k := max n m) (by rw [hx.len]; omega) (by rw [hy.len]; omega)
  have HX := Lib.hid hx
  have HY := Lib.hid hy
  have BX := Lib.hid bx
  have BY := Lib.hid by'
  clear hx hy bx by'
  by_cases hnm : n < m
  · have e : max n m = m := by omega
    rw [e] at hal
    clear e
    have hd : decide ((n : Int) < m) = true := by simp; omega
    go_enter Try.func48, Try.ntmps48
    go_wp2
    go_loop [6] (fun i => ∃ k : Nat, k ≤ 1048576 ∧ D.Alike xs ys k ∧ i = .int .i64 ((k : Int) - 1)) (fun i => (intOf i + 1).toNat)
    case atStart => exact ⟨_, by omega, hal, rfl⟩
    case round =>
      obtain ⟨k, hk, hal', rfl⟩ := hrel
      by_cases hk0 : k = 0
      · subst hk0
        have HF := Lib.hid (cmpN_eq hal'.zero)
        go_wp2
        go_ret
        exact ⟨by rw [HF.out]; rfl, rfl⟩
      · obtain ⟨k, rfl⟩ : ∃ j, k = j + 1 := ⟨k - 1, by omega⟩
        have ek : ((k + 1 : Nat) : Int) - 1 = (k : Int) := by omega
        rw [ek]
        have HA := Lib.hid hal'
        clear hal' ek hk0
        rcases Nat.lt_trichotomy (gd xs k) (gd ys k) with ht | ht | ht
        · have HF := Lib.hid (cmpN_lt (HA.out.lt BX.out ht))
          have Ht : ((gd xs k : Nat) : Int) < ((gd ys k : Nat) : Int) := by omega
          clear ht
          go_wp2_with fail
          refine (at_any w HX.out k (by omega)).mono ?_
          rintro e w' ⟨rfl, rfl⟩
          go_wp2_with fail
          refine (at_any w HY.out k (by omega)).mono ?_
          rintro e w' ⟨rfl, rfl⟩
          go_wp2_with fail
          go_ret
          exact ⟨by rw [HF.out]; rfl, rfl⟩
        · have HN := Lib.hid (HA.out.next ht)
          have Hd : decide (((gd xs k : Nat) : Int) < ((gd ys k : Nat) : Int)) = false := by simp only [decide_eq_false_iff_not]; omega
          have Hd2 : decide (((gd ys k : Nat) : Int) < ((gd xs k : Nat) : Int)) = false := by simp only [decide_eq_false_iff_not]; omega
          have Hn : decide (gd xs k < gd ys k) = false := by simp only [decide_eq_false_iff_not]; omega
          have Hn2 : decide (gd ys k < gd xs k) = false := by simp only [decide_eq_false_iff_not]; omega
          clear ht
          go_wp2_with fail
          refine (at_any w HX.out k (by omega)).mono ?_
          rintro e w' ⟨rfl, rfl⟩
          go_wp2_with fail
          refine (at_any w HY.out k (by omega)).mono ?_
          rintro e w' ⟨rfl, rfl⟩
          go_wp2_with fail
          refine (at_any w HX.out k (by omega)).mono ?_
          rintro e w' ⟨rfl, rfl⟩
          go_wp2_with fail
          refine (at_any w HY.out k (by omega)).mono ?_
          rintro e w' ⟨rfl, rfl⟩
          go_wp2_with fail
          refine ⟨⟨k, by omega, HN.out, rfl⟩, by simp [intOf]⟩
        · have HF := Lib.hid (cmpN_gt (HA.out.symm.lt BY.out ht))
          have Ht : ((gd ys k : Nat) : Int) < ((gd xs k : Nat) : Int) := by omega
          have Hd : decide (((gd xs k : Nat) : Int) < ((gd ys k : Nat) : Int)) = false := by simp only [decide_eq_false_iff_not]; omega
          have Hn : decide (gd xs k < gd ys k) = false := by simp only [decide_eq_false_iff_not]; omega
          have Hn2 : decide (gd ys k < gd xs k) = true := by simp only [decide_eq_true_eq]; omega
          clear ht
          go_wp2_with fail
          refine (at_any w HX.out k (by omega)).mono ?_
          rintro e w' ⟨rfl, rfl⟩
          go_wp2_with fail
          refine (at_any w HY.out k (by omega)).mono ?_
          rintro e w' ⟨rfl, rfl⟩
          go_wp2_with fail
          refine (at_any w HX.out k (by omega)).mono ?_
          rintro e w' ⟨rfl, rfl⟩
          go_wp2_with fail
          refine (at_any w HY.out k (by omega)).mono ?_
          rintro e w' ⟨rfl, rfl⟩
          go_wp2_with fail
          go_ret
          exact ⟨by rw [HF.out]; rfl, rfl⟩
  · have e : max n m = n := by omega
    rw [e] at hal
    clear e
    have hd : decide ((n : Int) < m) = false := by simp; omega
    go_enter Try.func48, Try.ntmps48
    go_wp2
    go_loop [6] (fun i => ∃ k : Nat, k ≤ 1048576 ∧ D.Alike xs ys k ∧ i = .int .i64 ((k : Int) - 1)) (fun i => (intOf i + 1).toNat)
    case atStart => exact ⟨_, by omega, hal, rfl⟩
    case round =>
      obtain ⟨k, hk, hal', rfl⟩ := hrel
      by_cases hk0 : k = 0
      · subst hk0
        have HF := Lib.hid (cmpN_eq hal'.zero)
        go_wp2
        go_ret
        exact ⟨by rw [HF.out]; rfl, rfl⟩
      · obtain ⟨k, rfl⟩ : ∃ j, k = j + 1 := ⟨k - 1, by omega⟩
        have ek : ((k + 1 : Nat) : Int) - 1 = (k : Int) := by omega
        rw [ek]
        have HA := Lib.hid hal'
        clear hal' ek hk0
        rcases Nat.lt_trichotomy (gd xs k) (gd ys k) with ht | ht | ht
        · have HF := Lib.hid (cmpN_lt (HA.out.lt BX.out ht))
          have Ht : ((gd xs k : Nat) : Int) < ((gd ys k : Nat) : Int) := by omega
          clear ht
          go_wp2_with fail
          refine (at_any w HX.out k (by omega)).mono ?_
          rintro e w' ⟨rfl, rfl⟩
          go_wp2_with fail
          refine (at_any w HY.out k (by omega)).mono ?_
          rintro e w' ⟨rfl, rfl⟩
          go_wp2_with fail
          go_ret
          exact ⟨by rw [HF.out]; rfl, rfl⟩
        · have HN := Lib.hid (HA.out.next ht)
          have Hd : decide (((gd xs k : Nat) : Int) < ((gd ys k : Nat) : Int)) = false := by simp only [decide_eq_false_iff_not]; omega
          have Hd2 : decide (((gd ys k : Nat) : Int) < ((gd xs k : Nat) : Int)) = false := by simp only [decide_eq_false_iff_not]; omega
          have Hn : decide (gd xs k < gd ys k) = false := by simp only [decide_eq_false_iff_not]; omega
          have Hn2 : decide (gd ys k < gd xs k) = false := by simp only [decide_eq_false_iff_not]; omega
          clear ht
          go_wp2_with fail
          refine (at_any w HX.out k (by omega)).mono ?_
          rintro e w' ⟨rfl, rfl⟩
          go_wp2_with fail
          refine (at_any w HY.out k (by omega)).mono ?_
          rintro e w' ⟨rfl, rfl⟩
          go_wp2_with fail
          refine (at_any w HX.out k (by omega)).mono ?_
          rintro e w' ⟨rfl, rfl⟩
          go_wp2_with fail
          refine (at_any w HY.out k (by omega)).mono ?_
          rintro e w' ⟨rfl, rfl⟩
          go_wp2_with fail
          refine ⟨⟨k, by omega, HN.out, rfl⟩, by simp [intOf]⟩
        · have HF := Lib.hid (cmpN_gt (HA.out.symm.lt BY.out ht))
          have Ht : ((gd ys k : Nat) : Int) < ((gd xs k : Nat) : Int) := by omega
          have Hd : decide (((gd xs k : Nat) : Int) < ((gd ys k : Nat) : Int)) = false := by simp only [decide_eq_false_iff_not]; omega
          have Hn : decide (gd xs k < gd ys k) = false := by simp only [decide_eq_false_iff_not]; omega
          have Hn2 : decide (gd ys k < gd xs k) = true := by simp only [decide_eq_true_eq]; omega
          clear ht
          go_wp2_with fail
          refine (at_any w HX.out k (by omega)).mono ?_
          rintro e w' ⟨rfl, rfl⟩
          go_wp2_with fail
          refine (at_any w HY.out k (by omega)).mono ?_
          rintro e w' ⟨rfl, rfl⟩
          go_wp2_with fail
          refine (at_any w HX.out k (by omega)).mono ?_
          rintro e w' ⟨rfl, rfl⟩
          go_wp2_with fail
          refine (at_any w HY.out k (by omega)).mono ?_
          rintro e w' ⟨rfl, rfl⟩
          go_wp2_with fail
          go_ret
          exact ⟨by rw [HF.out]; rfl, rfl⟩
end Go.Proofs.Yteelppebdcgbpaa
namespace Go.Proofs.Yteelppebdcgbpaa
set_option linter.unusedSimpArgs false
set_option linter.unusedVariables false
open Go.RowKit
structure RowW (w : World) (base gr g K c : Nat) (xs : List Nat) : Prop where
  box : w.cell? ⟨gr, 0, none⟩ = some (.slice (some ⟨g, 0, none⟩) K c)
  own : Own .i64 3 w base (some ⟨g, 0, none⟩) K c xs
  d16 : D.D16 xs
  ne : gr ≠ g
  lt : gr < w.heap.size
def RetRow (w : World) (base gr g K c m : Nat) (v : Value) (e : Ending) (w' : World) : Prop :=
  e = .returned v ∧ ∃ xs' : List Nat, RowW w' base gr g K c xs' ∧ D.nv xs' = m ∧ w.grownBy w' (some g)
theorem cell_set_ne2 {w : World} {p q : Addr} (h : q.block ≠ p.block) (u : Value) : (w.setCell p u).cell? q = w.cell? q := World.cell?_of_block (Below.heap_setCell w p u q.block h)
theorem RowW.store {w : World} {base gr g K c : Nat} {xs : List Nat} (h : RowW w base gr g K c xs) (j : Nat) {s : Nat} (hs : s < 65536) : RowW (w.setCell ⟨g, j, none⟩ (.int .i64 (s : Int))) base gr g K c (xs.set j s) :=
  ⟨(cell_set_ne2 (by simpa using h.ne) _).trans h.box, h.own.store j s, h.d16.set hs, h.ne, by have := h.lt; simpa using this⟩
theorem add_stepW {W S S' U Vt P q cy o s cy' : Nat} (hn : S' + P * o = S + P * s) (h1 : q + o + cy = s + W * cy') (h : S + P * cy = U + Vt) : S' + P * W * cy' = U + (Vt + P * q) := by
  have e1 := congrArg (P * ·) h1
  simp only [Nat.mul_add] at e1
  rw [← Nat.mul_assoc P W] at e1
  omega
theorem sub_stepW {W S S' X Vt P q cy o s cy' : Nat} (hn : S' + P * o = S + P * s) (h1 : o + W * cy' = s + q + cy) (h : S + Vt = X + P * cy) : S' + (Vt + P * q) = X + P * W * cy' := by
  have e1 := congrArg (P * ·) h1
  simp only [Nat.mul_add] at e1
  rw [← Nat.mul_assoc P W] at e1
  omega
def Aft (zs xs : List Nat) (t : Nat) : Prop := ∀ j, t ≤ j → gd zs j = gd xs j
theorem Aft.step {zs xs : List Nat} {t : Nat} (h : Aft zs xs t) (s : Nat) : Aft (zs.set t s) xs (t + 1) := fun j hj => by rw [gd_set (by omega)]; exact h j (by omega)
theorem low16 {v : Nat} (h : v < 9223372036854775808) : Go.bits .and .i64 (v : Int) 65535 = ((v % 65536 : Nat) : Int) := by
  have := (bits_nat .i64 63 (by decide) wraps_i64 v 65535 (by omega) (by decide)).1
  rw [show ((65535 : Nat) : Int) = 65535 from rfl] at this
  rw [this, show (65535 : Nat) = 2 ^ 16 - 1 from rfl, Nat.and_two_pow_sub_one_eq_mod]
theorem top_cy {W P S cy R : Nat} (h : S + P * cy = R) (hR : R < P) (hP : 0 < P) : cy = 0 := by
  rcases Nat.eq_zero_or_pos cy with h0 | h0
  · exact h0
  · have := Nat.mul_le_mul_left P h0; omega
theorem ret_val {k : IntKind} {a b : Int} (h : a = b) : Value.int k a = Value.int k b := by rw [h]
set_option maxHeartbeats 1000000 in
theorem double_any (w : World) {base gr g K c b : Nat} {xs : List Nat} (h : RowW w base gr g K c xs) (hb : b ≤ 1) (hK : K ≤ 1048576) (hfit : 2 * D.nv xs + b < 65536 ^ K) :
    Calls Try.prog 65 #[.pointer (some ⟨gr, 0, none⟩), .int .i64 b] w (RetRow w base gr g K c (2 * D.nv xs + b) (.tuple #[])) := by
  have H := Lib.hid h
  have HFIT := Lib.hid hfit
  have hne := h.ne
  clear h hfit
  go_enter Try.func65, Try.ntmps65
  go_wp2_with fail
  go_loopw [1, 4] (fun bv i wr => ∃ (t cy : Nat) (zs : List Nat), t ≤ K ∧ cy ≤ 1 ∧ i = .int .i64 (t : Int) ∧ bv = .int .i64 (cy : Int) ∧ RowW wr base gr g K c zs ∧ w.grownBy wr (some g) ∧ Aft zs xs t ∧ D.nv zs + 65536 ^ t * cy = (D.nv xs + b) + D.nv (xs.take t)) (fun _ i _ => K - (intOf i).toNat)
  case atStart => exact ⟨0, b, xs, by omega, hb, rfl, rfl, H.out, grown_refl _ _, fun _ _ => rfl, by simp [D.nv]⟩
  case round =>
    obtain ⟨t, cy, zs, ht, hcy, rfl, rfl, how, hgr, haft, hinv⟩ := hrel
    have HO := Lib.hid how
    have HG := Lib.hid hgr
    have HA := Lib.hid haft
    have HI := Lib.hid hinv
    have hbx := how.box
    have hcap := how.own.rd.cap
    have hmax := how.own.rd.max
    clear hinv haft hgr
    by_cases hlt : t < K
    · have hcell := how.own.cellAt hlt
      have hfr := how.own.frozenAt t
      obtain ⟨q, hq⟩ : ∃ q, gd zs t = q := ⟨_, rfl⟩
      have hq16 : q < 65536 := by rw [← hq]; exact how.d16.gd t
      have hqx : gd xs t = q := by rw [← HA.out t (Nat.le_refl t)]; exact hq
      rw [hq] at hcell
      have hset := D.nv_set (zs := zs) (j := t) ((cy + 2 * q) % 65536) (by rw [how.own.len]; exact hlt)
      rw [hq] at hset
      have hstep := add_stepW (W := 65536) (cy' := (cy + 2 * q) / 65536) hset (q := q) (cy := cy) (by omega) HI.out
      rw [← Nat.pow_succ] at hstep
      have HS := Lib.hid hstep
      have HT := Lib.hid (show D.nv (xs.take (t + 1)) = D.nv (xs.take t) + 65536 ^ t * q by rw [D.nv_take, hqx])
      have hand := low16 (v := cy + 2 * q) (by omega)
      have HC := Lib.hid (show (cy + 2 * q) / 65536 ≤ 1 by omega)
      have HM := Lib.hid (show (cy + 2 * q) % 65536 < 65536 from Nat.mod_lt _ (by omega))
      rw [show ((cy + 2 * q : Nat) : Int) = (cy : Int) + 2 * (q : Int) by omega] at hand
      clear hset hstep hqx hq how
      go_wp2_with fail
      have hst := HO.out.store t HM.out
      have ev : (((cy + 2 * q) % 65536 : Nat) : Int) = ((cy : Int) + 2 * (q : Int)) % 65536 := by omega
      rw [ev] at hst
      refine ⟨⟨t + 1, (cy + 2 * q) / 65536, zs.set t ((cy + 2 * q) % 65536), by omega, HC.out, by go_num, ret_val (by omega), hst, grown_set HG.out _ _, HA.out.step _, ?_⟩, by simp [intOf]; omega⟩
      rw [HT.out]; exact HS.out
    · obtain rfl : K = t := by omega
      have hee := HI.out
      rw [List.take_of_length_le (by rw [← Nat.not_lt]; exact fun h => by have := H.out.own.len; omega)] at hee
      have hcy0 := top_cy (W := 0) hee (by have := HFIT.out; omega) (Nat.pow_pos (by omega))
      subst hcy0
      have HF := Lib.hid (show D.nv zs = 2 * D.nv xs + b by omega)
      clear hee how
      go_wp2_with fail
      go_end0
      exact ⟨rfl, zs, HO.out, HF.out, HG.out⟩
theorem top_owed {P N X cy S : Nat} (h : S + N = X + P * cy) (hS : S < P) (hX : N ≤ X) : cy = 0 := by
  rcases Nat.eq_zero_or_pos cy with h0 | h0
  · exact h0
  · have := Nat.mul_le_mul_left P h0; omega
theorem RowW.drewN {w : World} {base gr g K c : Nat} {xs : List Nat} (h : RowW w base gr g K c xs) (n : Nat) : RowW (w.drewN n) base gr g K c xs := ⟨h.box, h.own.drewN n, h.d16, h.ne, h.lt⟩
theorem Rd.grownW {w w' : World} {B : Option Addr} {m d g : Nat} {ns : List Nat} (h : Rd .i64 w B m d ns) (hg : w.grownBy w' (some g)) (hne : ∀ ad, B = some ad → ad.block ≠ g) : Rd .i64 w' B m d ns := h.grown hg hne
theorem Rd.grown0 {w w' : World} {B : Option Addr} {m d g : Nat} {ns : List Nat} (h : Rd .i64 w B m d ns) (hg : w.grownBy w' (some g)) (hne : 0 < m → ∀ ad, B = some ad → ad.block ≠ g) : Rd .i64 w' B m d ns := by
  rcases Nat.eq_zero_or_pos m with h0 | h0
  · subst h0
    rw [List.eq_nil_of_length_eq_zero h.len]; exact ⟨rfl, h.cap, h.max, fun hh => by omega⟩
  · exact h.grown hg (hne h0)
set_option maxHeartbeats 1000000 in
theorem drop_no (w : World) {base gr g K c m d : Nat} {B : Option Addr} {xs ns : List Nat} (h : RowW w base gr g K c xs) (hn : Rd .i64 w B m d ns) (bn : D.D16 ns) (hK : K ≤ 1048576) (hm : m ≤ 1048576) (hlt : D.nv xs < D.nv ns) :
    Calls Try.prog 66 #[.pointer (some ⟨gr, 0, none⟩), .slice B m d] w (RetRow w base gr g K c (D.nv xs) (.bool false)) := by
  have H := Lib.hid h
  have HN := Lib.hid hn
  have BN := Lib.hid bn
  have HC := Lib.hid (cmpN_lt hlt)
  have hbx := h.box
  clear h hn bn hlt
  go_enter Try.func66, Try.ntmps66
  go_wp2_with fail
  refine (cmp3_any w H.out.own.rd H.out.d16 HN.out BN.out hK hm).mono ?_
  rintro e w' ⟨rfl, rfl⟩
  rw [HC.out]
  go_wp2_with fail
  go_ret
  exact ⟨rfl, xs, H.out, rfl, grown_refl _ _⟩
theorem at_quiet {w : World} {A : Option Addr} {n c q : Nat} {xs : List Nat} (h : Rd .i64 w A n c xs) {i : Nat} (hq : gd xs i = q) (hi : i ≤ 4611686018427387904) (k : Nat) :
    Calls Try.prog 72 #[.slice A n c, .int .i64 i] (w.drewN k) fun e w' => e = .returned (.int .i64 ((q : Nat) : Int)) ∧ w' = w.drewN k := by
  subst hq; exact same_of (at_any (w.drewN k) (h.drewN k) i hi)
set_option maxHeartbeats 4000000 in
theorem drop_yes (w : World) {base gr g K c m d : Nat} {B : Option Addr} {xs ns : List Nat} (h : RowW w base gr g K c xs) (hn : Rd .i64 w B m d ns) (bn : D.D16 ns) (hne : ∀ ad, B = some ad → ad.block ≠ g) (hK : K ≤ 1048576) (hm : m ≤ K) (hle : D.nv ns ≤ D.nv xs) :
    Calls Try.prog 66 #[.pointer (some ⟨gr, 0, none⟩), .slice B m d] w (RetRow w base gr g K c (D.nv xs - D.nv ns) (.bool true)) := by
  have H := Lib.hid h
  have HN := Lib.hid hn
  have BN := Lib.hid bn
  have HNE := Lib.hid hne
  have HLE := Lib.hid hle
  obtain ⟨z, hz⟩ : ∃ z : Int, cmpN (D.nv xs) (D.nv ns) = z := ⟨_, rfl⟩
  have hz0 : 0 ≤ z := by
    rcases Nat.lt_or_ge (D.nv ns) (D.nv xs) with h1 | h1
    · rw [cmpN_gt h1] at hz; omega
    · rw [cmpN_eq (by omega)] at hz; omega
  have HC := Lib.hid hz
  have hbx := h.box
  clear h hn bn hne hle hz
  go_enter Try.func66, Try.ntmps66
  go_wp2_with fail
  refine (cmp3_any w H.out.own.rd H.out.d16 HN.out BN.out hK (by omega)).mono ?_
  rintro e w' ⟨rfl, rfl⟩
  rw [HC.out]
  clear hbx
  go_wp2_with fail
  go_loopw [5, 6] (fun ov i wr => ∃ (t cy : Nat) (zs : List Nat), t ≤ K ∧ cy ≤ 1 ∧ i = .int .i64 (t : Int) ∧ ov = .int .i64 (cy : Int) ∧ RowW wr base gr g K c zs ∧ w.grownBy wr (some g) ∧ Aft zs xs t ∧ D.nv zs + D.nv (ns.take t) = D.nv xs + 65536 ^ t * cy) (fun _ i _ => K - (intOf i).toNat)
  case atStart => exact ⟨0, 0, xs, by omega, by omega, rfl, rfl, H.out, grown_refl _ _, fun _ _ => rfl, by simp [D.nv]⟩
  case round =>
    obtain ⟨t, cy, zs, ht, hcy, rfl, rfl, how, hgr, haft, hinv⟩ := hrel
    have HO := Lib.hid how
    have HG := Lib.hid hgr
    have HA := Lib.hid haft
    have HI := Lib.hid hinv
    have HNR := Lib.hid (HN.out.grownW hgr HNE.out)
    have hbx := how.box
    have hcap := how.own.rd.cap
    have hmax := how.own.rd.max
    clear hinv haft hgr
    by_cases hlt : t < K
    · have hcell := how.own.cellAt hlt
      have hfr := how.own.frozenAt t
      obtain ⟨o, ho⟩ : ∃ o, gd zs t = o := ⟨_, rfl⟩
      obtain ⟨q, hq⟩ : ∃ q, gd ns t = q := ⟨_, rfl⟩
      have ho16 : o < 65536 := by rw [← ho]; exact how.d16.gd t
      have hq16 : q < 65536 := by rw [← hq]; exact BN.out.gd t
      rw [ho] at hcell
      have HAT := Lib.hid (at_quiet HNR.out hq (by omega))
      have HT := Lib.hid (show D.nv (ns.take (t + 1)) = D.nv (ns.take t) + 65536 ^ t * q by rw [D.nv_take, hq])
      have w1 : IntKind.i64.wrap ((o : Int) - (q : Int)) = (o : Int) - (q : Int) := IntWalk.i64_in _ (by omega)
      have w2 : IntKind.i64.wrap ((o : Int) - (q : Int) - (cy : Int)) = (o : Int) - (q : Int) - (cy : Int) := IntWalk.i64_in _ (by omega)
      have hzl : t < zs.length := by rw [how.own.len]; exact hlt
      by_cases hneg : o < q + cy
      · have hset := D.nv_set (zs := zs) (j := t) (o + 65536 - q - cy) hzl
        rw [ho] at hset
        have hstep := sub_stepW (W := 65536) (cy' := 1) hset (q := q) (cy := cy) (by omega) HI.out
        rw [← Nat.pow_succ] at hstep
        have HS := Lib.hid hstep
        have hs16 : o + 65536 - q - cy < 65536 := by omega
        have ev : ((o + 65536 - q - cy : Nat) : Int) = (o : Int) - (q : Int) - (cy : Int) + 65536 := by omega
        have EV := Lib.hid ev
        have HTL := Lib.hid hlt
        clear hset hstep ev ho hq how hzl hlt
        go_wp2_with fail
        go_quiet ((go_at_call 72; exact Calls.quiet_of_same (HAT.out _)))
        clear w1 w2
        have hn2 : (o : Int) - (q : Int) - (cy : Int) < 0 := by omega
        go_wp2_with fail
        have hst := (HO.out.drewN nq).store t hs16
        rw [EV.out] at hst
        refine ⟨⟨t + 1, 1, zs.set t (o + 65536 - q - cy), by have := HTL.out; omega, by omega, by go_num, by go_num, hst, grown_set (grown_drewN HG.out nq) _ _, HA.out.step _, ?_⟩, by have := HTL.out; simp [intOf]; omega⟩
        rw [HT.out]; exact HS.out
      · have hset := D.nv_set (zs := zs) (j := t) (o - q - cy) hzl
        rw [ho] at hset
        have hstep := sub_stepW (W := 65536) (cy' := 0) hset (q := q) (cy := cy) (by omega) HI.out
        rw [← Nat.pow_succ] at hstep
        have HS := Lib.hid hstep
        have hs16 : o - q - cy < 65536 := by omega
        have ev : ((o - q - cy : Nat) : Int) = (o : Int) - (q : Int) - (cy : Int) := by omega
        have EV := Lib.hid ev
        have HTL := Lib.hid hlt
        clear hset hstep ev ho hq how hzl hlt
        go_wp2_with fail
        go_quiet ((go_at_call 72; exact Calls.quiet_of_same (HAT.out _)))
        clear w1 w2
        have hn2 : ¬ (o : Int) - (q : Int) - (cy : Int) < 0 := by omega
        go_wp2_with fail
        have hst := (HO.out.drewN nq).store t hs16
        rw [EV.out] at hst
        refine ⟨⟨t + 1, 0, zs.set t (o - q - cy), by have := HTL.out; omega, by omega, by go_num, by go_num, hst, grown_set (grown_drewN HG.out nq) _ _, HA.out.step _, ?_⟩, by have := HTL.out; simp [intOf]; omega⟩
        rw [HT.out]; exact HS.out
    · obtain rfl : K = t := by omega
      have hee := HI.out
      rw [List.take_of_length_le (by have := HN.out.len; omega)] at hee
      have hcy0 := top_owed hee (by have := D.nv_lt HO.out.d16; rw [HO.out.own.len] at this; exact this) HLE.out
      subst hcy0
      have HF := Lib.hid (show D.nv zs = D.nv xs - D.nv ns by omega)
      clear hee how
      go_wp2_with fail
      go_ret
      exact ⟨rfl, zs, HO.out, HF.out, HG.out⟩
set_option maxHeartbeats 4000000 in
theorem gain_any (w : World) {base gr g K c m d : Nat} {B : Option Addr} {xs ns : List Nat} (h : RowW w base gr g K c xs) (hn : Rd .i64 w B m d ns) (bn : D.D16 ns) (hne : 0 < m → ∀ ad, B = some ad → ad.block ≠ g) (hK : K ≤ 1048576) (hm : m ≤ K) (hfit : D.nv xs + D.nv ns < 65536 ^ K) :
    Calls Try.prog 67 #[.pointer (some ⟨gr, 0, none⟩), .slice B m d] w (RetRow w base gr g K c (D.nv xs + D.nv ns) (.tuple #[])) := by
  have H := Lib.hid h
  have HN := Lib.hid hn
  have BN := Lib.hid bn
  have HNE := Lib.hid hne
  have HFIT := Lib.hid hfit
  clear h hn bn hne hfit
  go_enter Try.func67, Try.ntmps67
  go_wp2_with fail
  go_loopw [4, 5] (fun ov i wr => ∃ (t cy : Nat) (zs : List Nat), t ≤ K ∧ cy ≤ 1 ∧ i = .int .i64 (t : Int) ∧ ov = .int .i64 (cy : Int) ∧ RowW wr base gr g K c zs ∧ w.grownBy wr (some g) ∧ Aft zs xs t ∧ D.nv zs + 65536 ^ t * cy = D.nv xs + D.nv (ns.take t)) (fun _ i _ => K - (intOf i).toNat)
  case atStart => exact ⟨0, 0, xs, by omega, by omega, rfl, rfl, H.out, grown_refl _ _, fun _ _ => rfl, by simp [D.nv]⟩
  case round =>
    obtain ⟨t, cy, zs, ht, hcy, rfl, rfl, how, hgr, haft, hinv⟩ := hrel
    have HO := Lib.hid how
    have HG := Lib.hid hgr
    have HA := Lib.hid haft
    have HI := Lib.hid hinv
    have HNR := Lib.hid (HN.out.grown0 hgr HNE.out)
    have hbx := how.box
    have hcap := how.own.rd.cap
    have hmax := how.own.rd.max
    clear hinv haft hgr
    by_cases hlt : t < K
    · have hcell := how.own.cellAt hlt
      have hfr := how.own.frozenAt t
      obtain ⟨o, ho⟩ : ∃ o, gd zs t = o := ⟨_, rfl⟩
      obtain ⟨q, hq⟩ : ∃ q, gd ns t = q := ⟨_, rfl⟩
      have ho16 : o < 65536 := by rw [← ho]; exact how.d16.gd t
      have hq16 : q < 65536 := by rw [← hq]; exact BN.out.gd t
      rw [ho] at hcell
      have HAT := Lib.hid (at_quiet HNR.out hq (by omega))
      have HT := Lib.hid (show D.nv (ns.take (t + 1)) = D.nv (ns.take t) + 65536 ^ t * q by rw [D.nv_take, hq])
      have hset := D.nv_set (zs := zs) (j := t) ((cy + o + q) % 65536) (by rw [how.own.len]; exact hlt)
      rw [ho] at hset
      have hstep := add_stepW (W := 65536) (cy' := (cy + o + q) / 65536) hset (q := q) (cy := cy) (by omega) HI.out
      rw [← Nat.pow_succ] at hstep
      have HS := Lib.hid hstep
      have HC := Lib.hid (show (cy + o + q) / 65536 ≤ 1 by omega)
      have HM := Lib.hid (show (cy + o + q) % 65536 < 65536 from Nat.mod_lt _ (by omega))
      have hand := low16 (v := cy + o + q) (by omega)
      rw [show ((cy + o + q : Nat) : Int) = (cy : Int) + (o : Int) + (q : Int) by omega] at hand
      have HTL := Lib.hid hlt
      have w1 : IntKind.i64.wrap ((cy : Int) + (o : Int)) = (cy : Int) + (o : Int) := IntWalk.i64_in _ (by omega)
      have w2 : IntKind.i64.wrap ((cy : Int) + (o : Int) + (q : Int)) = (cy : Int) + (o : Int) + (q : Int) := IntWalk.i64_in _ (by omega)
      clear hset hstep ho hq how hlt
      go_wp2_with fail
      go_quiet ((go_at_call 72; exact Calls.quiet_of_same (HAT.out _)))
      clear w1 w2
      go_wp2_with fail
      have hst := (HO.out.drewN nq).store t HM.out
      have ev : (((cy + o + q) % 65536 : Nat) : Int) = ((cy : Int) + (o : Int) + (q : Int)) % 65536 := by omega
      rw [ev] at hst
      refine ⟨⟨t + 1, (cy + o + q) / 65536, zs.set t ((cy + o + q) % 65536), by have := HTL.out; omega, HC.out, by go_num, ret_val (by omega), hst, grown_set (grown_drewN HG.out nq) _ _, HA.out.step _, ?_⟩, by have := HTL.out; simp [intOf]; omega⟩
      rw [HT.out]; exact HS.out
    · obtain rfl : K = t := by omega
      have hee := HI.out
      rw [List.take_of_length_le (by have := HN.out.len; omega)] at hee
      have hcy0 := top_cy (W := 0) hee HFIT.out (Nat.pow_pos (by omega))
      subst hcy0
      have HF := Lib.hid (show D.nv zs = D.nv xs + D.nv ns by omega)
      clear hee how
      go_wp2_with fail
      go_end0
      exact ⟨rfl, zs, HO.out, HF.out, HG.out⟩
end Go.Proofs.Yteelppebdcgbpaa
namespace Go.Proofs.Yteelppebdcgbpaa.Cq
open Go.RowKit Go.Proofs.YteelppebdcgbpaaW.PrintWords Go.Proofs.YteelppebdcgbpaaW.PrintLast Go.Proofs.YteelppebdcgbpaaW.PrintMore
attribute [local go_sem] max2_int min2_int max_two min_two max_three min_three max_four min_four   -- for this text's walks alone
set_option linter.unusedVariables false
set_option linter.unusedSimpArgs false
def errW : Option Int → Value
  | none => .nilIface
  | some c => .iface 0 (.int .i64 c)
theorem errW_none : errW none = .nilIface := rfl
theorem errW_some (c : Int) : errW (some c) = .iface 0 (.int .i64 c) := rfl
theorem info3 : (Try.prog.info? 3).map (fun i => (i.zero, i.size, i.bytes)) = some (some (.int .i64 0), 1, 8) := by kernel_rfl
theorem info35 : (Try.prog.info? 35).map (fun i => (i.zero, i.size, i.bytes)) = some (some (.int .u64 0), 1, 8) := by kernel_rfl
end Go.Proofs.Yteelppebdcgbpaa.Cq
namespace Go.Proofs.Yteelppebdcgbpaa.Cq
open Go.RowKit Go.Proofs.YteelppebdcgbpaaW.PrintWords Go.Proofs.YteelppebdcgbpaaW.PrintLast Go.Proofs.YteelppebdcgbpaaW.PrintMore
attribute [local go_sem] max2_int min2_int max_two min_two max_three min_three max_four min_four   -- for this text's walks alone
set_option linter.unusedVariables false
set_option linter.unusedSimpArgs false
def clepsydraref03_cut.l0 : Nat → List Int → Int → Option (List Int)
  | 0, _, _ => none
  | k + 1, x0, x3 => if x3 > 0 then (if 0 ≤ (wrap64 (x3 - 1)) then (if (wrap64 (x3 - 1)) < (x0.length : Int) then (if (rd x0 (wrap64 (x3 - 1))) = 0 then (clepsydraref03_cut.l0 k x0 (wrap64 (x3 - 1))) else (if 0 ≤ x3 then (if x3 ≤ (x0.length : Int) then (some (x0.take (x3 : Int).toNat)) else (none)) else (none))) else (none)) else (none)) else (if 0 ≤ x3 then (if x3 ≤ (x0.length : Int) then (some (x0.take (x3 : Int).toNat)) else (none)) else (none))
def clepsydraref03_cut.f (k : Nat) (l0 : List Int) : Option (List Int) := clepsydraref03_cut.l0 k l0 (l0.length : Int)
set_option maxHeartbeats 8000000 in
set_option maxRecDepth 100000 in
theorem clepsydraref03_cut.calls (k : Nat) (P0_ : Nat → Prop) (u9000_ : Value) (l0 : List Int) (r : List Int) (w0 w : World) (hB : Below w0.heap.size w0 w) (ho0 : Kd.R (Kd.int .i64) 3 w w0.heap.size P0_ u9000_ l0) (h : clepsydraref03_cut.f k l0 = some r) :
    Calls Try.prog 63 #[u9000_] w fun e w' => ∃ v0_ : Value, e = .returned (v0_) ∧ Kd.R (Kd.int .i64) 3 w' w0.heap.size (fun k_ => (P0_ k_ ∨ w.heap.size ≤ k_)) v0_ r ∧ Below w0.heap.size w0 w' ∧ Kept w w' (fun k_ => P0_ k_) := by
  have HO0 := Aside0.mk (show Kd.R (Kd.int .i64) 3 w w0.heap.size (fun k_ => (P0_ k_ ∨ w.heap.size ≤ k_)) u9000_ l0 from Kd.R_mono ho0 (fun k_ hk => (.inl hk)))
  have HK := Aside0.mk (Kept.refl w (fun k_ => P0_ k_))
  have HW0 := Aside0.mk hB.size
  have HB := Aside0.mk hB
  clear hB
  have H : (clepsydraref03_cut.l0 k l0 (l0.length : Int)) = some r := h
  clear h
  have H' := Aside0.mk H
  clear H
  obtain ⟨Ao2, co2, eo2⟩ := Kd.R_slice HO0.out
  subst eo2
  go_enter Try.func63, Try.ntmps63
  go_wp2
  go_loopg [3] k (fun kq v3 w' => ∃ (x3_1 : Int), v3 = .int .i64 x3_1 ∧ Aside0 (clepsydraref03_cut.l0 kq l0 x3_1 = some r) ∧ Aside0 (kq ≤ k) ∧ Aside0 (Kd.R (Kd.int .i64) 3 w' w0.heap.size (fun k_ => (P0_ k_ ∨ w.heap.size ≤ k_)) (.slice Ao2 l0.length co2) l0) ∧ Aside0 (Kept w w' (fun k_ => P0_ k_)) ∧ Aside0 (Below w0.heap.size w0 w'))
  case atStart => exact ⟨((l0.length : Int)), (by first | rfl | (simp; done) | (simp [*]; done)), H', ⟨Nat.le_refl _⟩, ⟨by (with_reducible repeat (first | apply Kd.R_alloc | apply Kd.R_drewN | apply Kd.R_drew)); exact HO0.out⟩, ⟨by repeat (first | (with_reducible first | exact HK.out | apply Kept.alloc | apply Kept.drewN | apply Kept.drew) | exact HK.out)⟩, ⟨by repeat (first | (with_reducible first | exact HB.out | apply below_alloc | apply pw_below_drewN | apply below_drew1) | exact HB.out)⟩⟩
  case round =>
    clear H'
    try clear p2
    obtain ⟨x3_1, rfl, HA, HK1, HO_0, HK, HB⟩ := hrel
    cases gk with
    | zero => exact absurd HA.out (by simp [clepsydraref03_cut.l0])
    | succ k1 =>
      have H := HA.out
      clear HA
      simp only [clepsydraref03_cut.l0] at H
      by_cases c3 : x3_1 > 0
      · rw [if_pos c3] at H
        have c3b0 : decide (0 < x3_1) = true := decide_eq_true c3
        clear c3
        obtain ⟨ji4, hji4⟩ : ∃ j_ : Int, (wrap64 (x3_1 - 1)) = j_ := ⟨_, rfl⟩
        replace H : (if 0 ≤ (ji4) then (if (ji4) < (l0.length : Int) then (if (rd l0 (ji4)) = 0 then (clepsydraref03_cut.l0 k1 l0 ji4) else (if 0 ≤ x3_1 then (if x3_1 ≤ (l0.length : Int) then (some (l0.take (x3_1 : Int).toNat)) else (none)) else (none))) else (none)) else (none)) = some r := by first | (rw [hji4] at H; exact H) | (simp only [hji4] at H ⊢; exact H)
        have hji4w : (IntKind.i64.wrap (x3_1 - 1)) = ji4 := (i64_w _).trans hji4
        by_cases c5 : 0 ≤ (ji4)
        · rw [if_pos c5] at H
          have c5b0 : decide (0 ≤ (ji4)) = true := decide_eq_true c5
          clear c5
          by_cases c6 : (ji4) < (l0.length : Int)
          · rw [if_pos c6] at H
            have c6b0 : decide ((ji4) < (l0.length : Int)) = true := decide_eq_true c6
            clear c6
            by_cases c7 : (rd l0 (ji4)) = 0
            · rw [if_pos c7] at H
              have c7b0 : ((rd l0 (ji4)) == 0) = true := beq_iff_eq.mpr c7
              have c7b1 : ((rd l0 (ji4)) != 0) = false := bne_eq_false_iff_eq.mpr c7
              clear c7
              have H' := Aside0.mk H
              clear H
              have p101 : 0 ≤ ((ji4) : Int) := of_decide_eq_true (by first | (with_reducible assumption) | assumption)
              have q101 : (ji4) < (l0.length : Int) := of_decide_eq_true (by first | (with_reducible assumption) | assumption)
              obtain ⟨ad101, e101, hx101_0⟩ := Kd.at_int (Kd.R_reads' HO_0.out).2.2 (ji4) p101 q101
              cases e101
              replace p101 := eq_true p101
              replace q101 := eq_true q101
              go_wp2
              go_roundg k1
              case measure => have := HK1.out; omega
              case rel => exact ⟨(ji4), (by first | rfl | (simp; done) | (simp only [← hji4] <;> (first | rfl | simp)) | (simp [*]; done)), H', ⟨by have := HK1.out; omega⟩, ⟨by (with_reducible repeat (first | apply Kd.R_alloc | apply Kd.R_drewN | apply Kd.R_drew)); exact HO_0.out⟩, ⟨by repeat (first | (with_reducible first | exact HK.out | apply Kept.alloc | apply Kept.drewN | apply Kept.drew) | exact HK.out)⟩, ⟨by repeat (first | (with_reducible first | exact HB.out | apply below_alloc | apply pw_below_drewN | apply below_drew1) | exact HB.out)⟩⟩
            · rw [if_neg c7] at H
              have c7b0 : ((rd l0 (ji4)) == 0) = false := beq_eq_false_iff_ne.mpr c7
              have c7b1 : ((rd l0 (ji4)) != 0) = true := bne_iff_ne.mpr c7
              by_cases c8 : 0 ≤ x3_1
              · rw [if_pos c8] at H
                have c8b0 := eq_true c8
                have c8b1 : decide (0 ≤ x3_1) = true := decide_eq_true c8
                clear c8
                by_cases c9 : x3_1 ≤ (l0.length : Int)
                · rw [if_pos c9] at H
                  have c9b0 := eq_true c9
                  have c9b1 : decide (x3_1 ≤ (l0.length : Int)) = true := decide_eq_true c9
                  clear c9
                  obtain ⟨y102, hy102⟩ : ∃ y_ : List Int, y_ = (l0.take (x3_1 : Int).toNat) := ⟨_, rfl⟩
                  replace H : (some y102) = some r := by first | (rw [hy102]; with_reducible exact H) | (have H2_ := (Option.bind_some _ _).symm.trans H; rw [hy102]; with_reducible exact H2_) | (have H2_ := (Option.bind_some _ _).symm.trans H; with_reducible exact H2_) | with_reducible exact H | (rw [hy102]; exact H) | exact H
                  have Ny102 := Aside0.mk hy102
                  clear hy102
                  obtain rfl := Option.some.inj H
                  simp only [Option.some.injEq, Prod.mk.injEq] at H
                  obtain ⟨rfl⟩ := H
                  have p101 : 0 ≤ ((ji4) : Int) := of_decide_eq_true (by first | (with_reducible assumption) | assumption)
                  have q101 : (ji4) < (l0.length : Int) := of_decide_eq_true (by first | (with_reducible assumption) | assumption)
                  obtain ⟨ad101, e101, hx101_0⟩ := Kd.at_int (Kd.R_reads' HO_0.out).2.2 (ji4) p101 q101
                  cases e101
                  replace p101 := eq_true p101
                  replace q101 := eq_true q101
                  have q10 : (x3_1 : Int) ≤ ((l0.length : Int) : Int) := of_decide_eq_true (by first | (with_reducible assumption) | assumption)
                  obtain ⟨i010, hi010, _, hsz10, _⟩ := info_parts info3
                  have hcut10 := cut_to (P := Try.prog) 44 3 .i64 Try.underlying44 hi010 (some ad101) l0.length co2 x3_1 (of_decide_eq_true (by first | (with_reducible assumption) | assumption)) q10 (Kd.R_reads' HO_0.out).2.1
                  have hr10 := Kd.R_take (m := (x3_1 : Int).toNat) HO_0.out (by omega)
                  have hy10 : y102.length = (x3_1 : Int).toNat := (by rw [Ny102.out, List.length_take]; omega)
                  rw [← Ny102.out] at hr10
                  rw [← hy10] at hr10 hcut10
                  clear hy10 hi010 hsz10 HO_0
                  have HO104 := Aside0.mk hr10
                  clear hr10
                  replace q10 := eq_true q10
                  go_wp2
                  go_ret
                  exact ⟨_, by first | rfl | (simp [errW_none, errW_some] <;> rfl) | (simp only [← hji4]; first | rfl | (simp [errW_none, errW_some] <;> rfl)) | (simp [*, errW_none, errW_some] <;> rfl), by (with_reducible repeat (first | apply Kd.R_alloc | apply Kd.R_drewN | apply Kd.R_drew)); exact HO104.out, by repeat (first | (with_reducible first | exact HB.out | apply below_alloc | apply pw_below_drewN | apply below_drew1) | exact HB.out), by repeat (first | (with_reducible first | exact HK.out | apply Kept.alloc | apply Kept.drewN | apply Kept.drew) | exact HK.out)⟩
                · rw [if_neg c9] at H
                  exact absurd H (by simp)
              · rw [if_neg c8] at H
                exact absurd H (by simp)
          · rw [if_neg c6] at H
            exact absurd H (by simp)
        · rw [if_neg c5] at H
          exact absurd H (by simp)
      · rw [if_neg c3] at H
        have c3b0 : decide (0 < x3_1) = false := decide_eq_false c3
        clear c3
        by_cases c11 : 0 ≤ x3_1
        · rw [if_pos c11] at H
          have c11b0 := eq_true c11
          have c11b1 : decide (0 ≤ x3_1) = true := decide_eq_true c11
          clear c11
          by_cases c12 : x3_1 ≤ (l0.length : Int)
          · rw [if_pos c12] at H
            have c12b0 := eq_true c12
            have c12b1 : decide (x3_1 ≤ (l0.length : Int)) = true := decide_eq_true c12
            clear c12
            obtain ⟨y105, hy105⟩ : ∃ y_ : List Int, y_ = (l0.take (x3_1 : Int).toNat) := ⟨_, rfl⟩
            replace H : (some y105) = some r := by first | (rw [hy105]; with_reducible exact H) | (have H2_ := (Option.bind_some _ _).symm.trans H; rw [hy105]; with_reducible exact H2_) | (have H2_ := (Option.bind_some _ _).symm.trans H; with_reducible exact H2_) | with_reducible exact H | (rw [hy105]; exact H) | exact H
            have Ny105 := Aside0.mk hy105
            clear hy105
            obtain rfl := Option.some.inj H
            simp only [Option.some.injEq, Prod.mk.injEq] at H
            obtain ⟨rfl⟩ := H
            have q13 : (x3_1 : Int) ≤ ((l0.length : Int) : Int) := of_decide_eq_true (by first | (with_reducible assumption) | assumption)
            obtain ⟨i013, hi013, _, hsz13, _⟩ := info_parts info3
            have hcut13 := cut_to (P := Try.prog) 44 3 .i64 Try.underlying44 hi013 Ao2 l0.length co2 x3_1 (of_decide_eq_true (by first | (with_reducible assumption) | assumption)) q13 (Kd.R_reads' HO_0.out).2.1
            have hr13 := Kd.R_take (m := (x3_1 : Int).toNat) HO_0.out (by omega)
            have hy13 : y105.length = (x3_1 : Int).toNat := (by rw [Ny105.out, List.length_take]; omega)
            rw [← Ny105.out] at hr13
            rw [← hy13] at hr13 hcut13
            clear hy13 hi013 hsz13 HO_0
            have HO107 := Aside0.mk hr13
            clear hr13
            replace q13 := eq_true q13
            go_wp2
            go_ret
            exact ⟨_, by first | rfl | (simp [errW_none, errW_some] <;> rfl) | (simp [*, errW_none, errW_some] <;> rfl), by (with_reducible repeat (first | apply Kd.R_alloc | apply Kd.R_drewN | apply Kd.R_drew)); exact HO107.out, by repeat (first | (with_reducible first | exact HB.out | apply below_alloc | apply pw_below_drewN | apply below_drew1) | exact HB.out), by repeat (first | (with_reducible first | exact HK.out | apply Kept.alloc | apply Kept.drewN | apply Kept.drew) | exact HK.out)⟩
          · rw [if_neg c12] at H
            exact absurd H (by simp)
        · rw [if_neg c11] at H
          exact absurd H (by simp)
mutual
def clepsydraref03_Digits.l0 : Nat → List Int → List Int → Int → Option (List Int)
  | 0, _, _, _ => none
  | k + 1, x0, x3, x4 => if x4 < (x0.length : Int) then (clepsydraref03_Digits.l1 k x0 x3 x4 0) else ((clepsydraref03_cut.f k x3).bind fun t108 => (some t108))
def clepsydraref03_Digits.l1 : Nat → List Int → List Int → Int → Int → Option (List Int)
  | 0, _, _, _, _ => none
  | k + 1, x0, x3, x4, x5 => if x5 < 4 then (if 0 ≤ x4 then (if x4 < (x0.length : Int) then (if 0 ≤ (IntKind.u64.wrap (wrap64 (16 * x5))) then (if x3.length < 17592186044416 then (clepsydraref03_Digits.l1 k x0 (x3 ++ [wrap64 (Go.bits .and .u64 (shr .u64 (rd x0 x4) (IntKind.u64.wrap (wrap64 (16 * x5)))) 65535)]) x4 (wrap64 (x5 + 1))) else (none)) else (none)) else (none)) else (none)) else (clepsydraref03_Digits.l0 k x0 x3 (wrap64 (x4 + 1)))
end
def clepsydraref03_Digits.f (k : Nat) (l0 : List Int) : Option (List Int) := clepsydraref03_Digits.l0 k l0 ([] : List Int) 0
set_option maxHeartbeats 8000000 in
set_option maxRecDepth 100000 in
theorem clepsydraref03_Digits.calls (k : Nat) (A0 : Option Addr) (c0 : Nat) (l0 : List Int) (r : List Int) (w : World) (hr0 : Kd.C (Kd.int .u64) w A0 l0.length l0) (hc0 : l0.length ≤ c0) (h : clepsydraref03_Digits.f k l0 = some r) :
    Calls Try.prog 36 #[.slice A0 l0.length c0] w fun e w' => ∃ v0_ : Value, e = .returned (v0_) ∧ Kd.R (Kd.int .i64) 3 w' w.heap.size (fun _ => True) v0_ r ∧ Below w.heap.size w w' := by
  have HR0 := Aside0.mk hr0
  have HC0 := Aside0.mk hc0
  clear hr0 hc0
  have HB := Aside0.mk (Below.refl w.heap.size w)
  have H : (clepsydraref03_Digits.l0 k l0 ([] : List Int) 0) = some r := h
  clear h
  have H' := Aside0.mk H
  clear H
  go_enter Try.func36, Try.ntmps36
  go_wp2
  go_loopg [3, 4] k (fun kq v3 v4 w' => ∃ (x3_1 : List Int) (x4_1 : Int), v4 = .int .i64 x4_1 ∧ Aside0 (clepsydraref03_Digits.l0 kq l0 x3_1 x4_1 = some r) ∧ Aside0 (kq ≤ k) ∧ Aside0 (Kd.R (Kd.int .i64) 3 w' w.heap.size (fun _ => True) v3 x3_1) ∧ Aside0 (Below w.heap.size w w'))
  case atStart => exact ⟨(([] : List Int)), (0), (by first | rfl | (simp; done) | (simp [*]; done)), H', ⟨Nat.le_refl _⟩, ⟨by first | exact Kd.R_nil _ _ _ _ _ | exact Kd.N_nil _ _ _ _ _ | exact Kd.V_nil _ _ _ _ _ | exact Kd.Q_nil _ _ _ _ _ | exact Kd.S_nil _ _ _ _ _⟩, ⟨by repeat (first | (with_reducible first | exact HB.out | apply below_alloc | apply pw_below_drewN | apply below_drew1) | exact HB.out)⟩⟩
  case round =>
    clear H'
    obtain ⟨x3_1, x4_1, rfl, HA, HK1, HO_3, HB⟩ := hrel
    cases gk with
    | zero => exact absurd HA.out (by simp [clepsydraref03_Digits.l0])
    | succ k1 =>
      have H := HA.out
      clear HA
      simp only [clepsydraref03_Digits.l0] at H
      by_cases c2 : x4_1 < (l0.length : Int)
      · rw [if_pos c2] at H
        have c2b0 : decide (x4_1 < (l0.length : Int)) = true := decide_eq_true c2
        clear c2
        have H' := Aside0.mk H
        clear H
        go_wp2
        go_loopg [3, 5] k1 (fun kq v3 v5 w' => ∃ (x3_2 : List Int) (x5_2 : Int), v5 = .int .i64 x5_2 ∧ Aside0 (clepsydraref03_Digits.l1 kq l0 x3_2 x4_1 x5_2 = some r) ∧ Aside0 (kq ≤ k1) ∧ Aside0 (Kd.R (Kd.int .i64) 3 w' w.heap.size (fun _ => True) v3 x3_2) ∧ Aside0 (Below w.heap.size w w'))
        case atStart => exact ⟨(x3_1), (0), (by first | rfl | (simp; done) | (simp [*]; done)), H', ⟨Nat.le_refl _⟩, ⟨by (with_reducible repeat (first | apply Kd.R_alloc | apply Kd.R_drewN | apply Kd.R_drew)); exact HO_3.out⟩, ⟨by repeat (first | (with_reducible first | exact HB.out | apply below_alloc | apply pw_below_drewN | apply below_drew1) | exact HB.out)⟩⟩
        case round =>
          clear H'
          try clear c2
          try clear c2b0
          try clear p2
          obtain ⟨x3_2, x5_2, rfl, HA, HK2, HO_3, HB⟩ := hrel
          cases gk with
          | zero => exact absurd HA.out (by simp [clepsydraref03_Digits.l1])
          | succ k2 =>
            have H := HA.out
            clear HA
            simp only [clepsydraref03_Digits.l1] at H
            by_cases c3 : x5_2 < 4
            · rw [if_pos c3] at H
              have c3b0 : decide (x5_2 < 4) = true := decide_eq_true c3
              clear c3
              by_cases c4 : 0 ≤ x4_1
              · rw [if_pos c4] at H
                have c4b0 : decide (0 ≤ x4_1) = true := decide_eq_true c4
                clear c4
                by_cases c5 : x4_1 < (l0.length : Int)
                · rw [if_pos c5] at H
                  have c5b0 : decide (x4_1 < (l0.length : Int)) = true := decide_eq_true c5
                  clear c5
                  obtain ⟨ji6, hji6⟩ : ∃ j_ : Int, (IntKind.u64.wrap (wrap64 (16 * x5_2))) = j_ := ⟨_, rfl⟩
                  replace H : (if 0 ≤ (ji6) then (if x3_2.length < 17592186044416 then (clepsydraref03_Digits.l1 k2 l0 (x3_2 ++ [wrap64 (Go.bits .and .u64 (shr .u64 (rd l0 x4_1) (ji6)) 65535)]) x4_1 (wrap64 (x5_2 + 1))) else (none)) else (none)) = some r := by first | (rw [hji6] at H; exact H) | (simp only [hji6] at H ⊢; exact H)
                  by_cases c7 : 0 ≤ (ji6)
                  · rw [if_pos c7] at H
                    have c7b0 := eq_true c7
                    have c7b1 : decide (0 ≤ (ji6)) = true := decide_eq_true c7
                    clear c7
                    obtain ⟨ji8, hji8⟩ : ∃ j_ : Int, (shr .u64 (rd l0 x4_1) (ji6)) = j_ := ⟨_, rfl⟩
                    replace H : (if x3_2.length < 17592186044416 then (clepsydraref03_Digits.l1 k2 l0 (x3_2 ++ [wrap64 (Go.bits .and .u64 (ji8) 65535)]) x4_1 (wrap64 (x5_2 + 1))) else (none)) = some r := by first | (rw [hji8] at H; exact H) | (simp only [hji8] at H ⊢; exact H)
                    have hji8_ : ((rd l0 x4_1) / 2 ^ min (ji6).toNat 64) = ji8 := hji8
                    have hji8z : (ji6) ≤ 64 → ((rd l0 x4_1) / 2 ^ (ji6).toNat) = ji8 := shr_small hji8
                    by_cases c9 : x3_2.length < 17592186044416
                    · rw [if_pos c9] at H
                      have LMc9 := Aside0.mk c9
                      clear c9
                      obtain ⟨y112, hy112⟩ : ∃ y_ : List Int, y_ = (x3_2 ++ [wrap64 (Go.bits .and .u64 (ji8) 65535)]) := ⟨_, rfl⟩
                      replace H : (clepsydraref03_Digits.l1 k2 l0 y112 x4_1 (wrap64 (x5_2 + 1))) = some r := by first | (rw [hy112]; with_reducible exact H) | (have H2_ := (Option.bind_some _ _).symm.trans H; rw [hy112]; with_reducible exact H2_) | (have H2_ := (Option.bind_some _ _).symm.trans H; with_reducible exact H2_) | with_reducible exact H | (rw [hy112]; exact H) | exact H
                      have Ny112 := Aside0.mk hy112
                      clear hy112
                      have H' := Aside0.mk H
                      clear H
                      have p111 : 0 ≤ (x4_1 : Int) := of_decide_eq_true (by first | (with_reducible assumption) | assumption)
                      have q111 : x4_1 < (l0.length : Int) := of_decide_eq_true (by first | (with_reducible assumption) | assumption)
                      obtain ⟨ad111, e111, hx111_0⟩ := Kd.at_int HR0.out x4_1 p111 q111
                      cases e111
                      replace hx111_0 := (HB.out.cell (World.block_lt_of_cell? w _ hx111_0)).trans hx111_0
                      replace p111 := eq_true p111
                      replace q111 := eq_true q111
                      go_wp2_with (first | ((with_reducible refine gate_builtin (b := .append) (xs := #[.tmp 16, .tmp 27]) rfl ?_); at_builtin; refine Kd.R_append (Kd.int .i64) (w0 := w) w.heap.size rfl (.tmp 16) (.tmp 27) 44 3 (.int .i64 0) 8 rfl Try.underlying44 info3 rfl (by decide) (by omega) u3 x3_2 (wrap64 (Go.bits .and .u64 (ji8) 65535)) [.int .i64 (wrap64 (Go.bits .and .u64 (ji8) 65535))] (fun _ => True) (fun _ => False) rfl rfl ?aP (fun _ hk => hk.elim) ?aF ?aO ?aB ?aS ?aL ?_; (case aP => exact rfl); (case aB => exact (by repeat (first | (with_reducible first | exact HB.out | apply below_alloc | apply pw_below_drewN | apply below_drew1) | exact HB.out))); (case aF => exact (fun _ _ => trivial)); (case aO => exact (by (with_reducible repeat (first | apply Kd.R_alloc | apply Kd.R_drewN | apply Kd.R_drew)); exact HO_3.out)); (case aS => exact (below_size (by repeat (first | (with_reducible first | exact HB.out | apply below_alloc | apply pw_below_drewN | apply below_drew1) | exact HB.out)))); (case aL => have := LMc9.out; omega); intro v113 w10 ho hb hg hat; rw [← Ny112.out] at ho; have n0_ := Aside0.mk (hb); have n1_ := Aside0.mk (ho); clear HB; clear HO_3; have HB := n0_; have HO114 := n1_; clear n0_ n1_; clear ho hb hg hat))
                      go_roundg k2
                      case measure => have := HK1.out; have := HK2.out; omega
                      case rel => exact ⟨(y112), (wrap64 (x5_2 + 1)), (by first | rfl | (simp; done) | (simp [*]; done)), H', ⟨by have := HK1.out; have := HK2.out; omega⟩, ⟨by (with_reducible repeat (first | apply Kd.R_alloc | apply Kd.R_drewN | apply Kd.R_drew)); exact HO114.out⟩, ⟨by repeat (first | (with_reducible first | exact HB.out | apply below_alloc | apply pw_below_drewN | apply below_drew1) | exact HB.out)⟩⟩
                    · rw [if_neg c9] at H
                      exact absurd H (by simp)
                  · rw [if_neg c7] at H
                    exact absurd H (by simp)
                · rw [if_neg c5] at H
                  exact absurd H (by simp)
              · rw [if_neg c4] at H
                exact absurd H (by simp)
            · rw [if_neg c3] at H
              have c3b0 : decide (x5_2 < 4) = false := decide_eq_false c3
              clear c3
              have H' := Aside0.mk H
              clear H
              go_wp2
              go_roundg k2
              case measure => have := HK1.out; have := HK2.out; omega
              case rel => exact ⟨(x3_2), (wrap64 (x4_1 + 1)), (by first | rfl | (simp; done) | (simp [*]; done)), H', ⟨by have := HK1.out; have := HK2.out; omega⟩, ⟨by (with_reducible repeat (first | apply Kd.R_alloc | apply Kd.R_drewN | apply Kd.R_drew)); exact HO_3.out⟩, ⟨by repeat (first | (with_reducible first | exact HB.out | apply below_alloc | apply pw_below_drewN | apply below_drew1) | exact HB.out)⟩⟩
      · rw [if_neg c2] at H
        have c2b0 : decide (x4_1 < (l0.length : Int)) = false := decide_eq_false c2
        clear c2
        replace H := Option.bind_eq_some_iff.mp H
        obtain ⟨t108, A110, H⟩ := H
        replace H : (some t108) = some r := H
        have A11 := Aside0.mk A110
        clear A110
        obtain rfl := Option.some.inj H
        simp only [Option.some.injEq, Prod.mk.injEq] at H
        obtain ⟨rfl⟩ := H
        obtain ⟨Ao12, co12, eo12⟩ := Kd.R_slice HO_3.out
        subst eo12
        go_wp2_with (first | ((with_reducible refine gate_callee (f := 63) rfl ?_); refine goesL_ (some 30) rfl rfl Try.func63 (by kernel_rfl) rfl #[.slice Ao12 x3_1.length co12] rfl (by (try simp only [List.map_toArray, List.map_cons, List.map_nil]); first | done | rfl | (simp only [List.length_drop, List.length_take]; rfl)) ?_; (with_reducible refine (clepsydraref03_cut.calls k1 (fun k_ => some k_ = (.slice Ao12 x3_1.length co12 : Value).ownBlock) (.slice Ao12 x3_1.length co12) x3_1 t108 w _ ?side1 ?side2 A11.out).mono ?_); (case side1 => repeat (first | (with_reducible first | exact HB.out | apply below_alloc | apply pw_below_drewN | apply below_drew1) | exact HB.out)); (case side2 => exact Kd.R_tight rfl HO_3.out); rintro e w13 ⟨v109, rfl, ho0, hb, hkp⟩; refine ⟨_, rfl, ?_⟩; have n0_ := Aside0.mk (Kd.R_mono (ok' := fun k_ => True) ho0 (fun k_ hk_ => trivial)); have n1_ := Aside0.mk (hb); clear HB; clear HO_3; have HO110 := n0_; have HB := n1_; clear n0_ n1_; (try clear hb); (try clear hkp); (try clear ho0)))
        go_ret
        exact ⟨_, by first | rfl | (simp [errW_none, errW_some] <;> rfl) | (simp [*, errW_none, errW_some] <;> rfl), by (with_reducible repeat (first | apply Kd.R_alloc | apply Kd.R_drewN | apply Kd.R_drew)); exact HO110.out, by repeat (first | (with_reducible first | exact HB.out | apply below_alloc | apply pw_below_drewN | apply below_drew1) | exact HB.out)⟩
end Go.Proofs.Yteelppebdcgbpaa.Cq
namespace Go.Proofs.Yteelppebdcgbpaa.Cq
open Go.RowKit Go.Proofs.YteelppebdcgbpaaW.PrintWords Go.Proofs.YteelppebdcgbpaaW.PrintLast Go.Proofs.YteelppebdcgbpaaW.PrintMore
attribute [local go_sem] max2_int min2_int max_two min_two max_three min_three max_four min_four   -- for this text's walks alone
set_option linter.unusedVariables false
set_option linter.unusedSimpArgs false
def clepsydraref03_Number.l0 : Nat → List Int → List Int → Int → Option (List Int)
  | 0, _, _, _ => none
  | k + 1, x0, x3, x4 => if x4 < (x0.length : Int) then (if (Int.tmod x4 4) = 0 then (if x3.length < 17592186044416 then ((some (x3 ++ [0] : List Int)).bind fun y118 => (if 0 ≤ (wrap64 (Int.tdiv x4 4)) then (if (wrap64 (Int.tdiv x4 4)) < (y118.length : Int) then (if 0 ≤ x4 then (if 0 ≤ (IntKind.u64.wrap (wrap64 (16 * (Int.tmod x4 4)))) then (clepsydraref03_Number.l0 k x0 (y118.set ((wrap64 (Int.tdiv x4 4)) : Int).toNat (IntKind.u64.wrap ((rd y118 (wrap64 (Int.tdiv x4 4))) + (shl .u64 (IntKind.u64.wrap (rd x0 x4)) (IntKind.u64.wrap (wrap64 (16 * (Int.tmod x4 4)))))))) (wrap64 (x4 + 1))) else (none)) else (none)) else (none)) else (none))) else (none)) else (if 0 ≤ (wrap64 (Int.tdiv x4 4)) then (if (wrap64 (Int.tdiv x4 4)) < (x3.length : Int) then (if 0 ≤ x4 then (if 0 ≤ (IntKind.u64.wrap (wrap64 (16 * (Int.tmod x4 4)))) then (clepsydraref03_Number.l0 k x0 (x3.set ((wrap64 (Int.tdiv x4 4)) : Int).toNat (IntKind.u64.wrap ((rd x3 (wrap64 (Int.tdiv x4 4))) + (shl .u64 (IntKind.u64.wrap (rd x0 x4)) (IntKind.u64.wrap (wrap64 (16 * (Int.tmod x4 4)))))))) (wrap64 (x4 + 1))) else (none)) else (none)) else (none)) else (none))) else (some x3)
def clepsydraref03_Number.f (k : Nat) (l0 : List Int) : Option (List Int) := (clepsydraref03_cut.f k l0).bind fun t115 => (clepsydraref03_Number.l0 k t115 ([] : List Int) 0)
def clepsydraref03_Number.T8 : Bool × List (List Nat × List Nat) := (true, [([], []), ([], []), ([1], [1]), ([], []), ([], []), ([4], [4]), ([3, 5], [3, 5]), ([6], [6]), ([], []), ([], []), ([8, 9], [8, 9]), ([10], [10]), ([11], [11]), ([], []), ([13], [13]), ([14], [14]), ([15], [15]), ([12, 16], [12, 16]), ([7, 17], [7, 17]), ([0, 2, 0, 1, 2, 3, 4, 5, 6, 7, 8, 9, 10, 11, 12, 13, 14, 15, 16, 17, 18], [0, 2]), ([19, 18, 0, 1, 2, 3, 4, 5, 6, 7, 8, 9, 10, 11, 12, 13, 14, 15, 16, 17, 18], [18, 19])])
def clepsydraref03_Number.B8 : List Nat := [0, 0, 2, 0, 0, 16, 56, 120, 0, 0, 768, 1792, 3840, 0, 8192, 24576, 57344, 130816, 262136, 524287, 1048575]
theorem clepsydraref03_Number.tab8 : rtab .any (opsOf Try.f38 8) = clepsydraref03_Number.T8 := by kernel_rfl
theorem clepsydraref03_Number.bits8 : waitsOk clepsydraref03_Number.T8.2 clepsydraref03_Number.B8 = true := by kernel_rfl
set_option maxHeartbeats 8000000 in
set_option maxRecDepth 100000 in
theorem clepsydraref03_Number.calls (k : Nat) (P0_ : Nat → Prop) (u9000_ : Value) (l0 : List Int) (r : List Int) (w0 w : World) (hB : Below w0.heap.size w0 w) (ho0 : Kd.R (Kd.int .i64) 3 w w0.heap.size P0_ u9000_ l0) (h : clepsydraref03_Number.f k l0 = some r) :
    Calls Try.prog 38 #[u9000_] w fun e w' => ∃ v0_ : Value, e = .returned (v0_) ∧ Kd.R (Kd.int .u64) 35 w' w0.heap.size (fun k_ => (P0_ k_ ∨ w.heap.size ≤ k_)) v0_ r ∧ Below w0.heap.size w0 w' ∧ Kept w w' (fun k_ => P0_ k_) := by
  have HO0 := Aside0.mk (show Kd.R (Kd.int .i64) 3 w w0.heap.size (fun k_ => (P0_ k_ ∨ w.heap.size ≤ k_)) u9000_ l0 from Kd.R_mono ho0 (fun k_ hk => (.inl hk)))
  have HK := Aside0.mk (Kept.refl w (fun k_ => P0_ k_))
  have HW0 := Aside0.mk hB.size
  have HB := Aside0.mk hB
  clear hB
  have H : ((clepsydraref03_cut.f k l0).bind fun t115 => (clepsydraref03_Number.l0 k t115 ([] : List Int) 0)) = some r := h
  clear h
  replace H := Option.bind_eq_some_iff.mp H
  obtain ⟨t115, A20, H⟩ := H
  replace H : (clepsydraref03_Number.l0 k t115 ([] : List Int) 0) = some r := H
  have A2 := Aside0.mk A20
  clear A20
  have H' := Aside0.mk H
  clear H
  obtain ⟨Ao3, co3, eo3⟩ := Kd.R_slice HO0.out
  subst eo3
  go_enter Try.func38, Try.ntmps38
  go_wp2_with (first | ((with_reducible refine gate_callee (f := 63) rfl ?_); refine goesL_ (some 6) rfl rfl Try.func63 (by kernel_rfl) rfl #[.slice Ao3 l0.length co3] rfl (by (try simp only [List.map_toArray, List.map_cons, List.map_nil]); first | done | rfl | (simp only [List.length_drop, List.length_take]; rfl)) ?_; (with_reducible refine (clepsydraref03_cut.calls k (fun k_ => some k_ = (.slice Ao3 l0.length co3 : Value).ownBlock) (.slice Ao3 l0.length co3) l0 t115 w0 _ ?side1 ?side2 A2.out).mono ?_); (case side1 => repeat (first | (with_reducible first | exact HB.out | apply below_alloc | apply pw_below_drewN | apply below_drew1) | exact HB.out)); (case side2 => exact Kd.R_tight rfl HO0.out); rintro e w4 ⟨v116, rfl, ho0, hb, hkp⟩; refine ⟨_, rfl, ?_⟩; have n0_ := Aside0.mk (Kd.R_mono (ok' := fun k_ => (P0_ k_ ∨ w.heap.size ≤ k_)) ho0 (fun k_ hk_ => Or.elim hk_ (fun hs_ => (HO0.out.1 k_ (hs_).symm)) (fun hn_ => (.inr (Nat.le_trans (by first | exact HK.out.1 | exact (show Kept w _ (fun k_ => P0_ k_) from by repeat (first | (with_reducible first | exact HK.out | apply Kept.alloc | apply Kept.drewN | apply Kept.drew) | exact HK.out)).1) hn_))))); have n1_ := Aside0.mk (Kept.then_ (S := (fun k_ => P0_ k_)) (by repeat (first | (with_reducible first | exact HK.out | apply Kept.alloc | apply Kept.drewN | apply Kept.drew) | exact HK.out)) hkp (fun k_ hs_ => (fun e_ => (HO0.out.1 k_ e_.symm)) hs_)); have n2_ := Aside0.mk (hb); clear HK; clear HB; clear HO0; have HO117 := n0_; have HK := n1_; have HB := n2_; clear n0_ n1_ n2_; (try clear hb); (try clear hkp); (try clear ho0)))
  go_loopg [3, 4] k (fun kq v3 v4 w' => ∃ (x3_1 : List Int) (x4_1 : Int), v4 = .int .i64 x4_1 ∧ Aside0 (clepsydraref03_Number.l0 kq t115 x3_1 x4_1 = some r) ∧ Aside0 (kq ≤ k) ∧ Aside0 (Kd.R (Kd.int .i64) 3 w' w0.heap.size (fun k_ => (P0_ k_ ∨ w.heap.size ≤ k_)) v116 t115) ∧ Aside0 (Kd.R (Kd.int .u64) 35 w' w0.heap.size (fun k_ => (P0_ k_ ∨ w.heap.size ≤ k_)) v3 x3_1) ∧ Aside0 (Kept w w' (fun k_ => P0_ k_)) ∧ Aside0 (Below w0.heap.size w0 w'))
  case atStart => exact ⟨(([] : List Int)), (0), (by first | rfl | (simp; done) | (simp [*]; done)), H', ⟨Nat.le_refl _⟩, ⟨by (with_reducible repeat (first | apply Kd.R_alloc | apply Kd.R_drewN | apply Kd.R_drew)); exact HO117.out⟩, ⟨by first | exact Kd.R_nil _ _ _ _ _ | exact Kd.N_nil _ _ _ _ _ | exact Kd.V_nil _ _ _ _ _ | exact Kd.Q_nil _ _ _ _ _ | exact Kd.S_nil _ _ _ _ _⟩, ⟨by repeat (first | (with_reducible first | exact HK.out | apply Kept.alloc | apply Kept.drewN | apply Kept.drew) | exact HK.out)⟩, ⟨by repeat (first | (with_reducible first | exact HB.out | apply below_alloc | apply pw_below_drewN | apply below_drew1) | exact HB.out)⟩⟩
  case round =>
    clear H'
    try clear p2
    try clear c3
    obtain ⟨x3_1, x4_1, rfl, HA, HK1, HO_0, HO_3, HK, HB⟩ := hrel
    cases gk with
    | zero => exact absurd HA.out (by simp [clepsydraref03_Number.l0])
    | succ k1 =>
      have H := HA.out
      clear HA
      simp only [clepsydraref03_Number.l0] at H
      by_cases c5 : x4_1 < (t115.length : Int)
      · rw [if_pos c5] at H
        have c5b0 : decide (x4_1 < (t115.length : Int)) = true := decide_eq_true c5
        clear c5
        by_cases c6 : (Int.tmod x4_1 4) = 0
        · rw [if_pos c6] at H
          have c6b0 : ((Int.tmod x4_1 4) == 0) = true := beq_iff_eq.mpr c6
          have c6b1 : ((Int.tmod x4_1 4) != 0) = false := bne_eq_false_iff_eq.mpr c6
          clear c6
          by_cases c7 : x3_1.length < 17592186044416
          · rw [if_pos c7] at H
            have LMc7 := Aside0.mk c7
            clear c7
            obtain ⟨y118, hy118⟩ : ∃ y_ : List Int, y_ = (x3_1 ++ [0]) := ⟨_, rfl⟩
            replace H : (if 0 ≤ (wrap64 (Int.tdiv x4_1 4)) then (if (wrap64 (Int.tdiv x4_1 4)) < (y118.length : Int) then (if 0 ≤ x4_1 then (if 0 ≤ (IntKind.u64.wrap (wrap64 (16 * (Int.tmod x4_1 4)))) then (clepsydraref03_Number.l0 k1 t115 (y118.set ((wrap64 (Int.tdiv x4_1 4)) : Int).toNat (IntKind.u64.wrap ((rd y118 (wrap64 (Int.tdiv x4_1 4))) + (shl .u64 (IntKind.u64.wrap (rd t115 x4_1)) (IntKind.u64.wrap (wrap64 (16 * (Int.tmod x4_1 4)))))))) (wrap64 (x4_1 + 1))) else (none)) else (none)) else (none)) else (none)) = some r := by first | (rw [hy118]; with_reducible exact H) | (have H2_ := (Option.bind_some _ _).symm.trans H; rw [hy118]; with_reducible exact H2_) | (have H2_ := (Option.bind_some _ _).symm.trans H; with_reducible exact H2_) | with_reducible exact H | (rw [hy118]; exact H) | exact H
            have Ny118 := Aside0.mk hy118
            clear hy118
            obtain ⟨ji8, hji8⟩ : ∃ j_ : Int, (wrap64 (Int.tdiv x4_1 4)) = j_ := ⟨_, rfl⟩
            replace H : (if 0 ≤ (ji8) then (if (ji8) < (y118.length : Int) then (if 0 ≤ x4_1 then (if 0 ≤ (IntKind.u64.wrap (wrap64 (16 * (Int.tmod x4_1 4)))) then (clepsydraref03_Number.l0 k1 t115 (y118.set ((ji8) : Int).toNat (IntKind.u64.wrap ((rd y118 (ji8)) + (shl .u64 (IntKind.u64.wrap (rd t115 x4_1)) (IntKind.u64.wrap (wrap64 (16 * (Int.tmod x4_1 4)))))))) (wrap64 (x4_1 + 1))) else (none)) else (none)) else (none)) else (none)) = some r := by first | (rw [hji8] at H; exact H) | (simp only [hji8] at H ⊢; exact H)
            have hji8w : (IntKind.i64.wrap (Int.tdiv x4_1 4)) = ji8 := (i64_w _).trans hji8
            by_cases c9 : 0 ≤ (ji8)
            · rw [if_pos c9] at H
              have c9b0 : decide (0 ≤ (ji8)) = true := decide_eq_true c9
              clear c9
              by_cases c10 : (ji8) < (y118.length : Int)
              · rw [if_pos c10] at H
                have c10b0 : decide ((ji8) < (y118.length : Int)) = true := decide_eq_true c10
                clear c10
                by_cases c11 : 0 ≤ x4_1
                · rw [if_pos c11] at H
                  have c11b0 : decide (0 ≤ x4_1) = true := decide_eq_true c11
                  clear c11
                  obtain ⟨ji12, hji12⟩ : ∃ j_ : Int, (IntKind.u64.wrap (wrap64 (16 * (Int.tmod x4_1 4)))) = j_ := ⟨_, rfl⟩
                  replace H : (if 0 ≤ (ji12) then (clepsydraref03_Number.l0 k1 t115 (y118.set ((ji8) : Int).toNat (IntKind.u64.wrap ((rd y118 (ji8)) + (shl .u64 (IntKind.u64.wrap (rd t115 x4_1)) (ji12))))) (wrap64 (x4_1 + 1))) else (none)) = some r := by first | (rw [hji12] at H; exact H) | (simp only [hji12] at H ⊢; exact H)
                  by_cases c13 : 0 ≤ (ji12)
                  · rw [if_pos c13] at H
                    have c13b0 := eq_true c13
                    have c13b1 : decide (0 ≤ (ji12)) = true := decide_eq_true c13
                    clear c13
                    obtain ⟨ji14, hji14⟩ : ∃ j_ : Int, (shl .u64 (IntKind.u64.wrap (rd t115 x4_1)) (ji12)) = j_ := ⟨_, rfl⟩
                    replace H : (clepsydraref03_Number.l0 k1 t115 (y118.set ((ji8) : Int).toNat (IntKind.u64.wrap ((rd y118 (ji8)) + (ji14)))) (wrap64 (x4_1 + 1))) = some r := by first | (rw [hji14] at H; exact H) | (simp only [hji14] at H ⊢; exact H)
                    have hji14_ : (IntKind.u64.wrap ((IntKind.u64.wrap (rd t115 x4_1)) * 2 ^ min (ji12).toNat 64)) = ji14 := hji14
                    have hji14z : (ji12) ≤ 64 → (IntKind.u64.wrap ((IntKind.u64.wrap (rd t115 x4_1)) * 2 ^ (ji12).toNat)) = ji14 := shl_small hji14
                    obtain ⟨y123, hy123⟩ : ∃ y_ : List Int, y_ = (y118.set ((ji8) : Int).toNat (IntKind.u64.wrap ((rd y118 (ji8)) + (ji14)))) := ⟨_, rfl⟩
                    replace H : (clepsydraref03_Number.l0 k1 t115 y123 (wrap64 (x4_1 + 1))) = some r := by first | (rw [hy123]; with_reducible exact H) | (have H2_ := (Option.bind_some _ _).symm.trans H; rw [hy123]; with_reducible exact H2_) | (have H2_ := (Option.bind_some _ _).symm.trans H; with_reducible exact H2_) | with_reducible exact H | (rw [hy123]; exact H) | exact H
                    have Ny123 := Aside0.mk hy123
                    clear hy123
                    have H' := Aside0.mk H
                    clear H
                    obtain ⟨Ao16, co16, eo16⟩ := Kd.R_slice HO_0.out
                    subst eo16
                    try go_wp2_with (first | ((with_reducible refine gate_builtin (b := .append) (xs := #[.tmp 16, .tmp 17]) rfl ?_); at_builtin; refine Kd.R_append (Kd.int .u64) (w0 := w0) w0.heap.size rfl (.tmp 16) (.tmp 17) 22 35 (.int .u64 0) 8 rfl Try.underlying22 info35 rfl (by decide) (by omega) u3 x3_1 0 [.int .u64 0] (fun k_ => (P0_ k_ ∨ w.heap.size ≤ k_)) (fun _ => False) rfl rfl ?aP (fun _ hk => hk.elim) ?aF ?aO ?aB ?aS ?aL ?_; (case aP => exact rfl); (case aB => exact (by repeat (first | (with_reducible first | exact HB.out | apply below_alloc | apply pw_below_drewN | apply below_drew1) | exact HB.out))); (case aF => exact (fun k_ hk => (.inr (Nat.le_trans (by first | exact HK.out.1 | exact (show Kept w _ (fun k_ => P0_ k_) from by repeat (first | (with_reducible first | exact HK.out | apply Kept.alloc | apply Kept.drewN | apply Kept.drew) | exact HK.out)).1) hk)))); (case aO => exact (by (with_reducible repeat (first | apply Kd.R_alloc | apply Kd.R_drewN | apply Kd.R_drew)); exact HO_3.out)); (case aS => exact (below_size (by repeat (first | (with_reducible first | exact HB.out | apply below_alloc | apply pw_below_drewN | apply below_drew1) | exact HB.out)))); (case aL => have := LMc7.out; omega); intro v119 w17 ho hb hg hat; rw [← Ny118.out] at ho; have n0_ := Aside0.mk (Kd.R_over' (by (with_reducible repeat (first | apply Kd.R_alloc | apply Kd.R_drewN | apply Kd.R_drew)); exact HO_0.out) (Kd.R_typed (by (with_reducible repeat (first | apply Kd.R_alloc | apply Kd.R_drewN | apply Kd.R_drew)); exact HO_3.out)) (by decide) hg); have n1_ := Aside0.mk (hb); have n2_ := Aside0.mk (Kept.of_grown (S := (fun k_ => P0_ k_)) hg (by repeat (first | (with_reducible first | exact HK.out | apply Kept.alloc | apply Kept.drewN | apply Kept.drew) | exact HK.out)) (fun k_ e_ => (HO_3.out.1 k_ e_))); have n3_ := Aside0.mk (ho); clear HO_0; clear HB; clear HK; clear HO_3; have HO_0 := n0_; have HB := n1_; have HK := n2_; have HO120 := n3_; clear n0_ n1_ n2_ n3_; clear ho hb hg hat))
                    have n0_ := Aside0.mk (Kd.R_drew HO_0.out)
                    have n1_ := Aside0.mk (Kd.R_drew HO120.out)
                    have n2_ := Aside0.mk (Kept.drew HK.out)
                    have n3_ := Aside0.mk (below_drew1 HB.out)
                    clear HO_0
                    clear HO120
                    clear HK
                    clear HB
                    have HO_0 := n0_
                    have HO120 := n1_
                    have HK := n2_
                    have HB := n3_
                    clear n0_ n1_ n2_ n3_
                    obtain ⟨Ao19, co19, eo19⟩ := Kd.R_slice HO120.out
                    (first | subst eo19 | (injection eo19 with f1_ f2_ f3_; have f4_ := f1_.symm; have f5_ := f3_.symm; clear f1_ f2_ f3_; subst f4_; subst f5_))
                    have p121 : 0 ≤ ((ji8) : Int) := of_decide_eq_true (by first | (with_reducible assumption) | assumption)
                    have q121 : (ji8) < (y118.length : Int) := of_decide_eq_true (by first | (with_reducible assumption) | assumption)
                    obtain ⟨ad121, e121, hx121_0⟩ := Kd.at_int (Kd.R_reads' HO120.out).2.2 (ji8) p121 q121
                    cases e121
                    replace p121 := eq_true p121
                    replace q121 := eq_true q121
                    have p122 : 0 ≤ (x4_1 : Int) := of_decide_eq_true (by first | (with_reducible assumption) | assumption)
                    have q122 : x4_1 < (t115.length : Int) := of_decide_eq_true (by first | (with_reducible assumption) | assumption)
                    obtain ⟨ad122, e122, hx122_0⟩ := Kd.at_int (Kd.R_reads' HO_0.out).2.2 x4_1 p122 q122
                    cases e122
                    replace p122 := eq_true p122
                    replace q122 := eq_true q122
                    have p15 : 0 ≤ ((ji8) : Int) := of_decide_eq_true (by first | (with_reducible assumption) | assumption)
                    have q15 : ((ji8) : Int) < ((y118.length : Int) : Int) := of_decide_eq_true (by first | (with_reducible assumption) | assumption)
                    obtain ⟨go15, co15, eo15, gb15, gl15, cl15, HG15⟩ := Kd.R_form HO120.out (by omega)
                    (first | cases eo15 | (injection eo15 with ea_ en_ ec_; (first | subst ea_ | (injection ea_ with ea_; subst ea_)); subst ec_; clear en_))
                    have GB15 := Aside0.mk gb15
                    have GG15 := Aside0.mk HG15
                    clear gb15 gl15 HG15
                    have HMgo15 := Aside0.mk (show (P0_ go15 ∨ w.heap.size ≤ go15) from (HO120.out.1 _ rfl))
                    (first | simp only [add_plain] at hx121_0 | skip)
                    obtain ⟨hx15_0, hf15_0⟩ := Kd.R_celln 0 HO120.out ((ji8) : Int) p15 q15
                    replace p15 := eq_true p15
                    replace q15 := eq_true q15
                    have HP20 := Kd.R_putn HO120.out ((ji8) : Int) (IntKind.u64.wrap ((rd y118 (ji8)) + (ji14)))
                    rw [← Ny123.out] at HP20
                    have HQ20 := Aside0.mk HP20
                    clear HP20
                    refine start_ (n := 21) (S := fun w' => w'.cell? ⟨go15, ((ji8)).toNat, none⟩ = some (.int .u64 (rd y118 (ji8))) ∧ w'.cell? (ad122.add (x4_1).toNat) = some (.int .i64 (rd t115 x4_1))) (ds := [20]) #[false, false, false, false, false, false, false, false, false, false, false, false, false, false, false, false, false, false, false, false, false] (by kernel_rfl) rfl rfl ⟨hx121_0, hx122_0⟩ (fun hHeld => ?_); refine with_tabW clepsydraref03_Number.tab8 clepsydraref03_Number.bits8 (fun HT_ HW_ => ?_)
                    generalize w17.drew = w18 at HO_0 HO120 HK HB GG15 HQ20 hf15_0 hx121_0 hx122_0 hx15_0 hHeld ⊢
                    refine pure_ (i := 0) (N := some 19) (v := ?_) (a' := ?_) #[true, false, false, false, false, false, false, false, false, false, false, false, false, false, false, false, false, false, false, false, false] rfl rfl (any_of HT_.out (by kernel_rfl)) (fun _ _ _ h => h) (Or.inl ⟨by rfl, ?_⟩) ?_ ?_
                    rotate_left
                    · intro w'
                      go_simp
                      with_reducible rfl
                    rotate_left
                    · simp only [Act.put, List.setIfInBounds_toArray, List.set_cons_zero, List.set_cons_succ, i64_w, i32_w]
                      rfl
                    refine pure_ (i := 1) (N := some 20) (v := ?_) (a' := ?_) #[true, true, false, false, false, false, false, false, false, false, false, false, false, false, false, false, false, false, false, false, false] rfl rfl (any_of HT_.out (by kernel_rfl)) (fun _ _ _ h => h) (Or.inl ⟨by rfl, ?_⟩) ?_ ?_
                    rotate_left
                    · intro w'
                      go_simp
                      with_reducible rfl
                    rotate_left
                    · simp only [Act.put, List.setIfInBounds_toArray, List.set_cons_zero, List.set_cons_succ, i64_w, i32_w]
                      rfl
                    refine pure_ (i := 2) (N := some 21) (v := ?_) (a' := ?_) #[true, true, true, false, false, false, false, false, false, false, false, false, false, false, false, false, false, false, false, false, false] rfl rfl (any_of HT_.out (by kernel_rfl)) (fun _ _ _ h => h) (Or.inl ⟨by rfl, ?_⟩) ?_ ?_
                    rotate_left
                    · intro w'
                      go_simp
                      with_reducible rfl
                    rotate_left
                    · simp only [Act.put, List.setIfInBounds_toArray, List.set_cons_zero, List.set_cons_succ, i64_w, i32_w]
                      rfl
                    refine pure_ (i := 3) (N := some 22) (v := ?_) (a' := ?_) #[true, true, true, true, false, false, false, false, false, false, false, false, false, false, false, false, false, false, false, false, false] rfl rfl (any_of HT_.out (by kernel_rfl)) (fun _ _ _ h => h) (Or.inl ⟨by rfl, ?_⟩) ?_ ?_
                    rotate_left
                    · intro w'
                      go_simp
                      with_reducible rfl
                    rotate_left
                    · simp only [Act.put, List.setIfInBounds_toArray, List.set_cons_zero, List.set_cons_succ, i64_w, i32_w]
                      rfl
                    refine pure_ (i := 4) (N := some 23) (v := ?_) (a' := ?_) #[true, true, true, true, true, false, false, false, false, false, false, false, false, false, false, false, false, false, false, false, false] rfl rfl (any_of HT_.out (by kernel_rfl)) (fun _ _ _ h => h) (Or.inl ⟨by rfl, ?_⟩) ?_ ?_
                    rotate_left
                    · intro w'
                      go_simp
                      with_reducible rfl
                    rotate_left
                    · simp only [Act.put, List.setIfInBounds_toArray, List.set_cons_zero, List.set_cons_succ, i64_w, i32_w]
                      rfl
                    refine pure_ (i := 5) (N := some 24) (v := ?_) (a' := ?_) #[true, true, true, true, true, true, false, false, false, false, false, false, false, false, false, false, false, false, false, false, false] rfl rfl (any_of HT_.out (by kernel_rfl)) (fun _ _ _ h => h) (Or.inl ⟨by rfl, ?_⟩) ?_ ?_
                    rotate_left
                    · intro w'
                      go_simp
                      with_reducible rfl
                    rotate_left
                    · simp only [Act.put, List.setIfInBounds_toArray, List.set_cons_zero, List.set_cons_succ, i64_w, i32_w]
                      rfl
                    refine pure_ (i := 6) (N := some 25) (v := ?_) (a' := ?_) #[true, true, true, true, true, true, true, false, false, false, false, false, false, false, false, false, false, false, false, false, false] rfl rfl (any_of HT_.out (by kernel_rfl)) (fun _ _ _ h => h) (Or.inl ⟨by rfl, ?_⟩) ?_ ?_
                    rotate_left
                    · intro w'
                      go_simp
                      with_reducible rfl
                    rotate_left
                    · simp only [Act.put, List.setIfInBounds_toArray, List.set_cons_zero, List.set_cons_succ, i64_w, i32_w]
                      rfl
                    refine pure_ (i := 8) (N := some 27) (v := ?_) (a' := ?_) #[true, true, true, true, true, true, true, false, true, false, false, false, false, false, false, false, false, false, false, false, false] rfl rfl (any_of HT_.out (by kernel_rfl)) (fun _ _ _ h => h) (Or.inl ⟨by rfl, ?_⟩) ?_ ?_
                    rotate_left
                    · intro w'
                      go_simp
                      with_reducible rfl
                    rotate_left
                    · simp only [Act.put, List.setIfInBounds_toArray, List.set_cons_zero, List.set_cons_succ, i64_w, i32_w]
                      rfl
                    refine pure_ (i := 9) (N := some 28) (v := ?_) (a' := ?_) #[true, true, true, true, true, true, true, false, true, true, false, false, false, false, false, false, false, false, false, false, false] rfl rfl (any_of HT_.out (by kernel_rfl)) (fun _ _ _ h => h) (Or.inl ⟨by rfl, ?_⟩) ?_ ?_
                    rotate_left
                    · intro w'
                      go_simp
                      with_reducible rfl
                    rotate_left
                    · simp only [Act.put, List.setIfInBounds_toArray, List.set_cons_zero, List.set_cons_succ, i64_w, i32_w]
                      rfl
                    refine pure_ (i := 10) (N := some 29) (v := ?_) (a' := ?_) #[true, true, true, true, true, true, true, false, true, true, true, false, false, false, false, false, false, false, false, false, false] rfl rfl (any_of HT_.out (by kernel_rfl)) (fun _ _ _ h => h) (Or.inl ⟨by rfl, ?_⟩) ?_ ?_
                    rotate_left
                    · intro w'
                      go_simp
                      with_reducible rfl
                    rotate_left
                    · simp only [Act.put, List.setIfInBounds_toArray, List.set_cons_zero, List.set_cons_succ, i64_w, i32_w]
                      rfl
                    refine pure_ (i := 13) (N := some 32) (v := ?_) (a' := ?_) #[true, true, true, true, true, true, true, false, true, true, true, false, false, true, false, false, false, false, false, false, false] rfl rfl (any_of HT_.out (by kernel_rfl)) (fun _ _ _ h => h) (Or.inl ⟨by rfl, ?_⟩) ?_ ?_
                    rotate_left
                    · intro w'
                      go_simp
                      with_reducible rfl
                    rotate_left
                    · simp only [Act.put, List.setIfInBounds_toArray, List.set_cons_zero, List.set_cons_succ, i64_w, i32_w]
                      rfl
                    refine pure_ (i := 14) (N := some 33) (v := ?_) (a' := ?_) #[true, true, true, true, true, true, true, false, true, true, true, false, false, true, true, false, false, false, false, false, false] rfl rfl (any_of HT_.out (by kernel_rfl)) (fun _ _ _ h => h) (Or.inl ⟨by rfl, ?_⟩) ?_ ?_
                    rotate_left
                    · intro w'
                      go_simp
                      with_reducible rfl
                    rotate_left
                    · simp only [Act.put, List.setIfInBounds_toArray, List.set_cons_zero, List.set_cons_succ, i64_w, i32_w]
                      rfl
                    refine pure_ (i := 15) (N := some 34) (v := ?_) (a' := ?_) #[true, true, true, true, true, true, true, false, true, true, true, false, false, true, true, true, false, false, false, false, false] rfl rfl (any_of HT_.out (by kernel_rfl)) (fun _ _ _ h => h) (Or.inl ⟨by rfl, ?_⟩) ?_ ?_
                    rotate_left
                    · intro w'
                      go_simp
                      with_reducible rfl
                    rotate_left
                    · simp only [Act.put, List.setIfInBounds_toArray, List.set_cons_zero, List.set_cons_succ, i64_w, i32_w]
                      rfl
                    refine pure_ (i := 16) (N := some 35) (v := ?_) (a' := ?_) #[true, true, true, true, true, true, true, false, true, true, true, false, false, true, true, true, true, false, false, false, false] rfl rfl (any_of HT_.out (by kernel_rfl)) (fun _ _ _ h => h) (Or.inl ⟨by rfl, ?_⟩) ?_ ?_
                    rotate_left
                    · intro w'
                      go_simp
                      with_reducible rfl
                    rotate_left
                    · simp only [Act.put, List.setIfInBounds_toArray, List.set_cons_zero, List.set_cons_succ, i64_w, i32_w]
                      rfl
                    refine take_ (i := 7) (N := some 26) (v := ?_) (a' := ?_) #[true, true, true, true, true, true, true, true, true, true, true, false, false, true, true, true, true, false, false, false, false] rfl rfl (take_ofW HT_.out HW_.out (by kernel_rfl)) (fun _ _ _ h => h) (Or.inl ⟨by rfl, ?_⟩) hHeld ?_ ?_
                    rotate_left
                    · rintro w' ⟨s0, s1⟩
                      go_simp
                      with_reducible rfl
                    rotate_left
                    · simp only [Act.put, List.setIfInBounds_toArray, List.set_cons_zero, List.set_cons_succ, i64_w, i32_w]
                      rfl
                    refine take_ (i := 11) (N := some 30) (v := ?_) (a' := ?_) #[true, true, true, true, true, true, true, true, true, true, true, true, false, true, true, true, true, false, false, false, false] rfl rfl (take_ofW HT_.out HW_.out (by kernel_rfl)) (fun _ _ _ h => h) (Or.inl ⟨by rfl, ?_⟩) hHeld ?_ ?_
                    rotate_left
                    · rintro w' ⟨s0, s1⟩
                      go_simp
                      with_reducible rfl
                    rotate_left
                    · simp only [Act.put, List.setIfInBounds_toArray, List.set_cons_zero, List.set_cons_succ, i64_w, i32_w]
                      rfl
                    refine pure_ (i := 12) (N := some 31) (v := ?_) (a' := ?_) #[true, true, true, true, true, true, true, true, true, true, true, true, true, true, true, true, true, false, false, false, false] rfl rfl (any_of HT_.out (by kernel_rfl)) (fun _ _ _ h => h) (Or.inl ⟨by rfl, ?_⟩) ?_ ?_
                    rotate_left
                    · intro w'
                      go_simp
                      with_reducible rfl
                    rotate_left
                    · simp only [Act.put, List.setIfInBounds_toArray, List.set_cons_zero, List.set_cons_succ, i64_w, i32_w]
                      rfl
                    refine pure_ (i := 17) (N := some 36) (v := ?_) (a' := ?_) #[true, true, true, true, true, true, true, true, true, true, true, true, true, true, true, true, true, true, false, false, false] rfl rfl (any_of HT_.out (by kernel_rfl)) (fun _ _ _ h => h) (Or.inl ⟨by rfl, ?_⟩) ?_ ?_
                    rotate_left
                    · intro w'
                      go_simp
                      with_reducible rfl
                    rotate_left
                    · simp only [Act.put, List.setIfInBounds_toArray, List.set_cons_zero, List.set_cons_succ, i64_w, i32_w]
                      rfl
                    refine pure_ (i := 18) (N := some 37) (v := ?_) (a' := ?_) #[true, true, true, true, true, true, true, true, true, true, true, true, true, true, true, true, true, true, true, false, false] rfl rfl (any_of HT_.out (by kernel_rfl)) (fun _ _ _ h => h) (Or.inl ⟨by rfl, ?_⟩) ?_ ?_
                    rotate_left
                    · intro w'
                      go_simp
                      with_reducible rfl
                    rotate_left
                    · simp only [Act.put, List.setIfInBounds_toArray, List.set_cons_zero, List.set_cons_succ, i64_w, i32_w]
                      rfl
                    refine pure_ (i := 19) (N := some 38) (v := ?_) (a' := ?_) #[true, true, true, true, true, true, true, true, true, true, true, true, true, true, true, true, true, true, true, true, false] rfl rfl (any_of HT_.out (by kernel_rfl)) (fun _ _ _ h => h) (Or.inl ⟨by rfl, ?_⟩) ?_ ?_
                    rotate_left
                    · intro w'
                      go_simp
                      with_reducible rfl
                    rotate_left
                    · simp only [Act.put, List.setIfInBounds_toArray, List.set_cons_zero, List.set_cons_succ, i64_w, i32_w]
                      rfl
                    refine last_ (i := 20) (N := none) #[true, true, true, true, true, true, true, true, true, true, true, true, true, true, true, true, true, true, true, true, true] rfl rfl (one_of HT_.out (by kernel_rfl)) (by decide) (fun K hK => ?_)
                    refine skip_ (w1 := ?_) (by rfl) rfl ?_ ?_
                    rotate_left
                    · go_simp
                      rfl
                    refine hK.out _ _ ?_
                    clear hK K
                    refine done_ (done_of HT_.out (by kernel_rfl)) ?_
                    try go_wp2
                    go_roundg k1
                    case measure => have := HK1.out; omega
                    case rel => exact ⟨(y123), (wrap64 (x4_1 + 1)), (by first | rfl | (simp; done) | (simp [*]; done)), H', ⟨by have := HK1.out; omega⟩, ⟨by (with_reducible repeat (first | apply Kd.R_alloc | apply Kd.R_drewN | apply Kd.R_drew)); exact Kd.R_mono (Kd.R_far (p := ⟨go15, ((ji8) : Int).toNat, none⟩) (Kd.R_types HO_0.out GG15.out (by decide)) (fun _ hk => hk.2) (.int .u64 (IntKind.u64.wrap ((rd y118 (ji8)) + (ji14))))) (fun _ hk => hk.1)⟩, ⟨by (with_reducible repeat (first | apply Kd.R_alloc | apply Kd.R_drewN | apply Kd.R_drew)); exact HQ20.out⟩, ⟨by repeat (first | (with_reducible first | exact HK.out | apply Kept.alloc | apply Kept.drewN | apply Kept.drew | refine Kept.setCell ?_ HMgo15.out _) | exact HK.out)⟩, ⟨by repeat (first | (with_reducible first | exact HB.out | apply below_alloc | apply pw_below_drewN | apply below_drew1 | refine below_set ?_ GB15.out) | exact HB.out)⟩⟩
                  · rw [if_neg c13] at H
                    exact absurd H (by simp)
                · rw [if_neg c11] at H
                  exact absurd H (by simp)
              · rw [if_neg c10] at H
                exact absurd H (by simp)
            · rw [if_neg c9] at H
              exact absurd H (by simp)
          · rw [if_neg c7] at H
            exact absurd H (by simp)
        · rw [if_neg c6] at H
          have c6b0 : ((Int.tmod x4_1 4) == 0) = false := beq_eq_false_iff_ne.mpr c6
          have c6b1 : ((Int.tmod x4_1 4) != 0) = true := bne_iff_ne.mpr c6
          obtain ⟨ji21, hji21⟩ : ∃ j_ : Int, (wrap64 (Int.tdiv x4_1 4)) = j_ := ⟨_, rfl⟩
          replace H : (if 0 ≤ (ji21) then (if (ji21) < (x3_1.length : Int) then (if 0 ≤ x4_1 then (if 0 ≤ (IntKind.u64.wrap (wrap64 (16 * (Int.tmod x4_1 4)))) then (clepsydraref03_Number.l0 k1 t115 (x3_1.set ((ji21) : Int).toNat (IntKind.u64.wrap ((rd x3_1 (ji21)) + (shl .u64 (IntKind.u64.wrap (rd t115 x4_1)) (IntKind.u64.wrap (wrap64 (16 * (Int.tmod x4_1 4)))))))) (wrap64 (x4_1 + 1))) else (none)) else (none)) else (none)) else (none)) = some r := by first | (rw [hji21] at H; exact H) | (simp only [hji21] at H ⊢; exact H)
          have hji21w : (IntKind.i64.wrap (Int.tdiv x4_1 4)) = ji21 := (i64_w _).trans hji21
          by_cases c22 : 0 ≤ (ji21)
          · rw [if_pos c22] at H
            have c22b0 : decide (0 ≤ (ji21)) = true := decide_eq_true c22
            clear c22
            by_cases c23 : (ji21) < (x3_1.length : Int)
            · rw [if_pos c23] at H
              have c23b0 : decide ((ji21) < (x3_1.length : Int)) = true := decide_eq_true c23
              clear c23
              by_cases c24 : 0 ≤ x4_1
              · rw [if_pos c24] at H
                have c24b0 : decide (0 ≤ x4_1) = true := decide_eq_true c24
                clear c24
                obtain ⟨ji25, hji25⟩ : ∃ j_ : Int, (IntKind.u64.wrap (wrap64 (16 * (Int.tmod x4_1 4)))) = j_ := ⟨_, rfl⟩
                replace H : (if 0 ≤ (ji25) then (clepsydraref03_Number.l0 k1 t115 (x3_1.set ((ji21) : Int).toNat (IntKind.u64.wrap ((rd x3_1 (ji21)) + (shl .u64 (IntKind.u64.wrap (rd t115 x4_1)) (ji25))))) (wrap64 (x4_1 + 1))) else (none)) = some r := by first | (rw [hji25] at H; exact H) | (simp only [hji25] at H ⊢; exact H)
                by_cases c26 : 0 ≤ (ji25)
                · rw [if_pos c26] at H
                  have c26b0 := eq_true c26
                  have c26b1 : decide (0 ≤ (ji25)) = true := decide_eq_true c26
                  clear c26
                  obtain ⟨ji27, hji27⟩ : ∃ j_ : Int, (shl .u64 (IntKind.u64.wrap (rd t115 x4_1)) (ji25)) = j_ := ⟨_, rfl⟩
                  replace H : (clepsydraref03_Number.l0 k1 t115 (x3_1.set ((ji21) : Int).toNat (IntKind.u64.wrap ((rd x3_1 (ji21)) + (ji27)))) (wrap64 (x4_1 + 1))) = some r := by first | (rw [hji27] at H; exact H) | (simp only [hji27] at H ⊢; exact H)
                  have hji27_ : (IntKind.u64.wrap ((IntKind.u64.wrap (rd t115 x4_1)) * 2 ^ min (ji25).toNat 64)) = ji27 := hji27
                  have hji27z : (ji25) ≤ 64 → (IntKind.u64.wrap ((IntKind.u64.wrap (rd t115 x4_1)) * 2 ^ (ji25).toNat)) = ji27 := shl_small hji27
                  obtain ⟨y126, hy126⟩ : ∃ y_ : List Int, y_ = (x3_1.set ((ji21) : Int).toNat (IntKind.u64.wrap ((rd x3_1 (ji21)) + (ji27)))) := ⟨_, rfl⟩
                  replace H : (clepsydraref03_Number.l0 k1 t115 y126 (wrap64 (x4_1 + 1))) = some r := by first | (rw [hy126]; with_reducible exact H) | (have H2_ := (Option.bind_some _ _).symm.trans H; rw [hy126]; with_reducible exact H2_) | (have H2_ := (Option.bind_some _ _).symm.trans H; with_reducible exact H2_) | with_reducible exact H | (rw [hy126]; exact H) | exact H
                  have Ny126 := Aside0.mk hy126
                  clear hy126
                  have H' := Aside0.mk H
                  clear H
                  obtain ⟨Ao29, co29, eo29⟩ := Kd.R_slice HO_0.out
                  subst eo29
                  try go_wp2
                  have n0_ := Aside0.mk (Kd.R_drew HO_0.out)
                  have n1_ := Aside0.mk (Kd.R_drew HO_3.out)
                  have n2_ := Aside0.mk (Kept.drew HK.out)
                  have n3_ := Aside0.mk (below_drew1 HB.out)
                  clear HO_0
                  clear HO_3
                  clear HK
                  clear HB
                  have HO_0 := n0_
                  have HO_3 := n1_
                  have HK := n2_
                  have HB := n3_
                  clear n0_ n1_ n2_ n3_
                  obtain ⟨Ao31, co31, eo31⟩ := Kd.R_slice HO_3.out
                  (first | subst eo31 | (injection eo31 with f1_ f2_ f3_; have f4_ := f1_.symm; have f5_ := f3_.symm; clear f1_ f2_ f3_; subst f4_; subst f5_))
                  have p124 : 0 ≤ ((ji21) : Int) := of_decide_eq_true (by first | (with_reducible assumption) | assumption)
                  have q124 : (ji21) < (x3_1.length : Int) := of_decide_eq_true (by first | (with_reducible assumption) | assumption)
                  obtain ⟨ad124, e124, hx124_0⟩ := Kd.at_int (Kd.R_reads' HO_3.out).2.2 (ji21) p124 q124
                  cases e124
                  replace p124 := eq_true p124
                  replace q124 := eq_true q124
                  have p125 : 0 ≤ (x4_1 : Int) := of_decide_eq_true (by first | (with_reducible assumption) | assumption)
                  have q125 : x4_1 < (t115.length : Int) := of_decide_eq_true (by first | (with_reducible assumption) | assumption)
                  obtain ⟨ad125, e125, hx125_0⟩ := Kd.at_int (Kd.R_reads' HO_0.out).2.2 x4_1 p125 q125
                  cases e125
                  replace p125 := eq_true p125
                  replace q125 := eq_true q125
                  have p28 : 0 ≤ ((ji21) : Int) := of_decide_eq_true (by first | (with_reducible assumption) | assumption)
                  have q28 : ((ji21) : Int) < ((x3_1.length : Int) : Int) := of_decide_eq_true (by first | (with_reducible assumption) | assumption)
                  obtain ⟨go28, co28, eo28, gb28, gl28, cl28, HG28⟩ := Kd.R_form HO_3.out (by omega)
                  (first | cases eo28 | (injection eo28 with ea_ en_ ec_; (first | subst ea_ | (injection ea_ with ea_; subst ea_)); subst ec_; clear en_))
                  have GB28 := Aside0.mk gb28
                  have GG28 := Aside0.mk HG28
                  clear gb28 gl28 HG28
                  have HMgo28 := Aside0.mk (show (P0_ go28 ∨ w.heap.size ≤ go28) from (HO_3.out.1 _ rfl))
                  (first | simp only [add_plain] at hx124_0 | skip)
                  obtain ⟨hx28_0, hf28_0⟩ := Kd.R_celln 0 HO_3.out ((ji21) : Int) p28 q28
                  replace p28 := eq_true p28
                  replace q28 := eq_true q28
                  have HP32 := Kd.R_putn HO_3.out ((ji21) : Int) (IntKind.u64.wrap ((rd x3_1 (ji21)) + (ji27)))
                  rw [← Ny126.out] at HP32
                  have HQ32 := Aside0.mk HP32
                  clear HP32
                  refine start_ (n := 21) (S := fun w' => w'.cell? ⟨go28, ((ji21)).toNat, none⟩ = some (.int .u64 (rd x3_1 (ji21))) ∧ w'.cell? (ad125.add (x4_1).toNat) = some (.int .i64 (rd t115 x4_1))) (ds := [20]) #[false, false, false, false, false, false, false, false, false, false, false, false, false, false, false, false, false, false, false, false, false] (by kernel_rfl) rfl rfl ⟨hx124_0, hx125_0⟩ (fun hHeld => ?_); refine with_tabW clepsydraref03_Number.tab8 clepsydraref03_Number.bits8 (fun HT_ HW_ => ?_)
                  generalize wr.drew = w30 at HO_0 HO_3 HK HB GG28 HQ32 hf28_0 hx124_0 hx125_0 hx28_0 hHeld ⊢
                  refine pure_ (i := 0) (N := some 19) (v := ?_) (a' := ?_) #[true, false, false, false, false, false, false, false, false, false, false, false, false, false, false, false, false, false, false, false, false] rfl rfl (any_of HT_.out (by kernel_rfl)) (fun _ _ _ h => h) (Or.inl ⟨by rfl, ?_⟩) ?_ ?_
                  rotate_left
                  · intro w'
                    go_simp
                    with_reducible rfl
                  rotate_left
                  · simp only [Act.put, List.setIfInBounds_toArray, List.set_cons_zero, List.set_cons_succ, i64_w, i32_w]
                    rfl
                  refine pure_ (i := 1) (N := some 20) (v := ?_) (a' := ?_) #[true, true, false, false, false, false, false, false, false, false, false, false, false, false, false, false, false, false, false, false, false] rfl rfl (any_of HT_.out (by kernel_rfl)) (fun _ _ _ h => h) (Or.inl ⟨by rfl, ?_⟩) ?_ ?_
                  rotate_left
                  · intro w'
                    go_simp
                    with_reducible rfl
                  rotate_left
                  · simp only [Act.put, List.setIfInBounds_toArray, List.set_cons_zero, List.set_cons_succ, i64_w, i32_w]
                    rfl
                  refine pure_ (i := 2) (N := some 21) (v := ?_) (a' := ?_) #[true, true, true, false, false, false, false, false, false, false, false, false, false, false, false, false, false, false, false, false, false] rfl rfl (any_of HT_.out (by kernel_rfl)) (fun _ _ _ h => h) (Or.inl ⟨by rfl, ?_⟩) ?_ ?_
                  rotate_left
                  · intro w'
                    go_simp
                    with_reducible rfl
                  rotate_left
                  · simp only [Act.put, List.setIfInBounds_toArray, List.set_cons_zero, List.set_cons_succ, i64_w, i32_w]
                    rfl
                  refine pure_ (i := 3) (N := some 22) (v := ?_) (a' := ?_) #[true, true, true, true, false, false, false, false, false, false, false, false, false, false, false, false, false, false, false, false, false] rfl rfl (any_of HT_.out (by kernel_rfl)) (fun _ _ _ h => h) (Or.inl ⟨by rfl, ?_⟩) ?_ ?_
                  rotate_left
                  · intro w'
                    go_simp
                    with_reducible rfl
                  rotate_left
                  · simp only [Act.put, List.setIfInBounds_toArray, List.set_cons_zero, List.set_cons_succ, i64_w, i32_w]
                    rfl
                  refine pure_ (i := 4) (N := some 23) (v := ?_) (a' := ?_) #[true, true, true, true, true, false, false, false, false, false, false, false, false, false, false, false, false, false, false, false, false] rfl rfl (any_of HT_.out (by kernel_rfl)) (fun _ _ _ h => h) (Or.inl ⟨by rfl, ?_⟩) ?_ ?_
                  rotate_left
                  · intro w'
                    go_simp
                    with_reducible rfl
                  rotate_left
                  · simp only [Act.put, List.setIfInBounds_toArray, List.set_cons_zero, List.set_cons_succ, i64_w, i32_w]
                    rfl
                  refine pure_ (i := 5) (N := some 24) (v := ?_) (a' := ?_) #[true, true, true, true, true, true, false, false, false, false, false, false, false, false, false, false, false, false, false, false, false] rfl rfl (any_of HT_.out (by kernel_rfl)) (fun _ _ _ h => h) (Or.inl ⟨by rfl, ?_⟩) ?_ ?_
                  rotate_left
                  · intro w'
                    go_simp
                    with_reducible rfl
                  rotate_left
                  · simp only [Act.put, List.setIfInBounds_toArray, List.set_cons_zero, List.set_cons_succ, i64_w, i32_w]
                    rfl
                  refine pure_ (i := 6) (N := some 25) (v := ?_) (a' := ?_) #[true, true, true, true, true, true, true, false, false, false, false, false, false, false, false, false, false, false, false, false, false] rfl rfl (any_of HT_.out (by kernel_rfl)) (fun _ _ _ h => h) (Or.inl ⟨by rfl, ?_⟩) ?_ ?_
                  rotate_left
                  · intro w'
                    go_simp
                    with_reducible rfl
                  rotate_left
                  · simp only [Act.put, List.setIfInBounds_toArray, List.set_cons_zero, List.set_cons_succ, i64_w, i32_w]
                    rfl
                  refine pure_ (i := 8) (N := some 27) (v := ?_) (a' := ?_) #[true, true, true, true, true, true, true, false, true, false, false, false, false, false, false, false, false, false, false, false, false] rfl rfl (any_of HT_.out (by kernel_rfl)) (fun _ _ _ h => h) (Or.inl ⟨by rfl, ?_⟩) ?_ ?_
                  rotate_left
                  · intro w'
                    go_simp
                    with_reducible rfl
                  rotate_left
                  · simp only [Act.put, List.setIfInBounds_toArray, List.set_cons_zero, List.set_cons_succ, i64_w, i32_w]
                    rfl
                  refine pure_ (i := 9) (N := some 28) (v := ?_) (a' := ?_) #[true, true, true, true, true, true, true, false, true, true, false, false, false, false, false, false, false, false, false, false, false] rfl rfl (any_of HT_.out (by kernel_rfl)) (fun _ _ _ h => h) (Or.inl ⟨by rfl, ?_⟩) ?_ ?_
                  rotate_left
                  · intro w'
                    go_simp
                    with_reducible rfl
                  rotate_left
                  · simp only [Act.put, List.setIfInBounds_toArray, List.set_cons_zero, List.set_cons_succ, i64_w, i32_w]
                    rfl
                  refine pure_ (i := 10) (N := some 29) (v := ?_) (a' := ?_) #[true, true, true, true, true, true, true, false, true, true, true, false, false, false, false, false, false, false, false, false, false] rfl rfl (any_of HT_.out (by kernel_rfl)) (fun _ _ _ h => h) (Or.inl ⟨by rfl, ?_⟩) ?_ ?_
                  rotate_left
                  · intro w'
                    go_simp
                    with_reducible rfl
                  rotate_left
                  · simp only [Act.put, List.setIfInBounds_toArray, List.set_cons_zero, List.set_cons_succ, i64_w, i32_w]
                    rfl
                  refine pure_ (i := 13) (N := some 32) (v := ?_) (a' := ?_) #[true, true, true, true, true, true, true, false, true, true, true, false, false, true, false, false, false, false, false, false, false] rfl rfl (any_of HT_.out (by kernel_rfl)) (fun _ _ _ h => h) (Or.inl ⟨by rfl, ?_⟩) ?_ ?_
                  rotate_left
                  · intro w'
                    go_simp
                    with_reducible rfl
                  rotate_left
                  · simp only [Act.put, List.setIfInBounds_toArray, List.set_cons_zero, List.set_cons_succ, i64_w, i32_w]
                    rfl
                  refine pure_ (i := 14) (N := some 33) (v := ?_) (a' := ?_) #[true, true, true, true, true, true, true, false, true, true, true, false, false, true, true, false, false, false, false, false, false] rfl rfl (any_of HT_.out (by kernel_rfl)) (fun _ _ _ h => h) (Or.inl ⟨by rfl, ?_⟩) ?_ ?_
                  rotate_left
                  · intro w'
                    go_simp
                    with_reducible rfl
                  rotate_left
                  · simp only [Act.put, List.setIfInBounds_toArray, List.set_cons_zero, List.set_cons_succ, i64_w, i32_w]
                    rfl
                  refine pure_ (i := 15) (N := some 34) (v := ?_) (a' := ?_) #[true, true, true, true, true, true, true, false, true, true, true, false, false, true, true, true, false, false, false, false, false] rfl rfl (any_of HT_.out (by kernel_rfl)) (fun _ _ _ h => h) (Or.inl ⟨by rfl, ?_⟩) ?_ ?_
                  rotate_left
                  · intro w'
                    go_simp
                    with_reducible rfl
                  rotate_left
                  · simp only [Act.put, List.setIfInBounds_toArray, List.set_cons_zero, List.set_cons_succ, i64_w, i32_w]
                    rfl
                  refine pure_ (i := 16) (N := some 35) (v := ?_) (a' := ?_) #[true, true, true, true, true, true, true, false, true, true, true, false, false, true, true, true, true, false, false, false, false] rfl rfl (any_of HT_.out (by kernel_rfl)) (fun _ _ _ h => h) (Or.inl ⟨by rfl, ?_⟩) ?_ ?_
                  rotate_left
                  · intro w'
                    go_simp
                    with_reducible rfl
                  rotate_left
                  · simp only [Act.put, List.setIfInBounds_toArray, List.set_cons_zero, List.set_cons_succ, i64_w, i32_w]
                    rfl
                  refine take_ (i := 7) (N := some 26) (v := ?_) (a' := ?_) #[true, true, true, true, true, true, true, true, true, true, true, false, false, true, true, true, true, false, false, false, false] rfl rfl (take_ofW HT_.out HW_.out (by kernel_rfl)) (fun _ _ _ h => h) (Or.inl ⟨by rfl, ?_⟩) hHeld ?_ ?_
                  rotate_left
                  · rintro w' ⟨s0, s1⟩
                    go_simp
                    with_reducible rfl
                  rotate_left
                  · simp only [Act.put, List.setIfInBounds_toArray, List.set_cons_zero, List.set_cons_succ, i64_w, i32_w]
                    rfl
                  refine take_ (i := 11) (N := some 30) (v := ?_) (a' := ?_) #[true, true, true, true, true, true, true, true, true, true, true, true, false, true, true, true, true, false, false, false, false] rfl rfl (take_ofW HT_.out HW_.out (by kernel_rfl)) (fun _ _ _ h => h) (Or.inl ⟨by rfl, ?_⟩) hHeld ?_ ?_
                  rotate_left
                  · rintro w' ⟨s0, s1⟩
                    go_simp
                    with_reducible rfl
                  rotate_left
                  · simp only [Act.put, List.setIfInBounds_toArray, List.set_cons_zero, List.set_cons_succ, i64_w, i32_w]
                    rfl
                  refine pure_ (i := 12) (N := some 31) (v := ?_) (a' := ?_) #[true, true, true, true, true, true, true, true, true, true, true, true, true, true, true, true, true, false, false, false, false] rfl rfl (any_of HT_.out (by kernel_rfl)) (fun _ _ _ h => h) (Or.inl ⟨by rfl, ?_⟩) ?_ ?_
                  rotate_left
                  · intro w'
                    go_simp
                    with_reducible rfl
                  rotate_left
                  · simp only [Act.put, List.setIfInBounds_toArray, List.set_cons_zero, List.set_cons_succ, i64_w, i32_w]
                    rfl
                  refine pure_ (i := 17) (N := some 36) (v := ?_) (a' := ?_) #[true, true, true, true, true, true, true, true, true, true, true, true, true, true, true, true, true, true, false, false, false] rfl rfl (any_of HT_.out (by kernel_rfl)) (fun _ _ _ h => h) (Or.inl ⟨by rfl, ?_⟩) ?_ ?_
                  rotate_left
                  · intro w'
                    go_simp
                    with_reducible rfl
                  rotate_left
                  · simp only [Act.put, List.setIfInBounds_toArray, List.set_cons_zero, List.set_cons_succ, i64_w, i32_w]
                    rfl
                  refine pure_ (i := 18) (N := some 37) (v := ?_) (a' := ?_) #[true, true, true, true, true, true, true, true, true, true, true, true, true, true, true, true, true, true, true, false, false] rfl rfl (any_of HT_.out (by kernel_rfl)) (fun _ _ _ h => h) (Or.inl ⟨by rfl, ?_⟩) ?_ ?_
                  rotate_left
                  · intro w'
                    go_simp
                    with_reducible rfl
                  rotate_left
                  · simp only [Act.put, List.setIfInBounds_toArray, List.set_cons_zero, List.set_cons_succ, i64_w, i32_w]
                    rfl
                  refine pure_ (i := 19) (N := some 38) (v := ?_) (a' := ?_) #[true, true, true, true, true, true, true, true, true, true, true, true, true, true, true, true, true, true, true, true, false] rfl rfl (any_of HT_.out (by kernel_rfl)) (fun _ _ _ h => h) (Or.inl ⟨by rfl, ?_⟩) ?_ ?_
                  rotate_left
                  · intro w'
                    go_simp
                    with_reducible rfl
                  rotate_left
                  · simp only [Act.put, List.setIfInBounds_toArray, List.set_cons_zero, List.set_cons_succ, i64_w, i32_w]
                    rfl
                  refine last_ (i := 20) (N := none) #[true, true, true, true, true, true, true, true, true, true, true, true, true, true, true, true, true, true, true, true, true] rfl rfl (one_of HT_.out (by kernel_rfl)) (by decide) (fun K hK => ?_)
                  refine skip_ (w1 := ?_) (by rfl) rfl ?_ ?_
                  rotate_left
                  · go_simp
                    rfl
                  refine hK.out _ _ ?_
                  clear hK K
                  refine done_ (done_of HT_.out (by kernel_rfl)) ?_
                  try go_wp2
                  go_roundg k1
                  case measure => have := HK1.out; omega
                  case rel => exact ⟨(y126), (wrap64 (x4_1 + 1)), (by first | rfl | (simp; done) | (simp [*]; done)), H', ⟨by have := HK1.out; omega⟩, ⟨by (with_reducible repeat (first | apply Kd.R_alloc | apply Kd.R_drewN | apply Kd.R_drew)); exact Kd.R_mono (Kd.R_far (p := ⟨go28, ((ji21) : Int).toNat, none⟩) (Kd.R_types HO_0.out GG28.out (by decide)) (fun _ hk => hk.2) (.int .u64 (IntKind.u64.wrap ((rd x3_1 (ji21)) + (ji27))))) (fun _ hk => hk.1)⟩, ⟨by (with_reducible repeat (first | apply Kd.R_alloc | apply Kd.R_drewN | apply Kd.R_drew)); exact HQ32.out⟩, ⟨by repeat (first | (with_reducible first | exact HK.out | apply Kept.alloc | apply Kept.drewN | apply Kept.drew | refine Kept.setCell ?_ HMgo28.out _) | exact HK.out)⟩, ⟨by repeat (first | (with_reducible first | exact HB.out | apply below_alloc | apply pw_below_drewN | apply below_drew1 | refine below_set ?_ GB28.out) | exact HB.out)⟩⟩
                · rw [if_neg c26] at H
                  exact absurd H (by simp)
              · rw [if_neg c24] at H
                exact absurd H (by simp)
            · rw [if_neg c23] at H
              exact absurd H (by simp)
          · rw [if_neg c22] at H
            exact absurd H (by simp)
      · rw [if_neg c5] at H
        have c5b0 : decide (x4_1 < (t115.length : Int)) = false := decide_eq_false c5
        clear c5
        obtain rfl := Option.some.inj H
        simp only [Option.some.injEq, Prod.mk.injEq] at H
        obtain ⟨rfl⟩ := H
        obtain ⟨Ao33, co33, eo33⟩ := Kd.R_slice HO_0.out
        subst eo33
        go_wp2
        go_ret
        exact ⟨_, by first | rfl | (simp [errW_none, errW_some] <;> rfl) | (simp [*, errW_none, errW_some] <;> rfl), by (with_reducible repeat (first | apply Kd.R_alloc | apply Kd.R_drewN | apply Kd.R_drew)); exact HO_3.out, by repeat (first | (with_reducible first | exact HB.out | apply below_alloc | apply pw_below_drewN | apply below_drew1) | exact HB.out), by repeat (first | (with_reducible first | exact HK.out | apply Kept.alloc | apply Kept.drewN | apply Kept.drew) | exact HK.out)⟩
def clepsydraref03_at.f (l0 : List Int) (a1 : Int) : Option (Int) := if a1 ≥ (l0.length : Int) then (some 0) else (if 0 ≤ a1 then (if a1 < (l0.length : Int) then (some (rd l0 a1)) else (none)) else (none))
set_option maxHeartbeats 8000000 in
set_option maxRecDepth 100000 in
theorem clepsydraref03_at.calls (A0 : Option Addr) (c0 : Nat) (l0 : List Int) (a1 : Int) (r : Int) (w : World) (hr0 : Kd.C (Kd.int .i64) w A0 l0.length l0) (hc0 : l0.length ≤ c0) (h : clepsydraref03_at.f l0 a1 = some r) :
    Calls Try.prog 72 #[.slice A0 l0.length c0, .int .i64 a1] w fun e w' => e = .returned (.int .i64 r) ∧ Drawn0 w w' := by
  have HR0 := Aside0.mk hr0
  have HC0 := Aside0.mk hc0
  clear hr0 hc0
  have H : (if a1 ≥ (l0.length : Int) then (some 0) else (if 0 ≤ a1 then (if a1 < (l0.length : Int) then (some (rd l0 a1)) else (none)) else (none))) = some r := h
  clear h
  by_cases c3 : a1 ≥ (l0.length : Int)
  · rw [if_pos c3] at H
    have c3b0 : decide ((l0.length : Int) ≤ a1) = true := decide_eq_true c3
    clear c3
    obtain rfl := Option.some.inj H
    simp only [Option.some.injEq, Prod.mk.injEq] at H
    obtain ⟨rfl⟩ := H
    go_enter Try.func72, Try.ntmps72
    go_wp2
    go_ret
    exact ⟨by first | rfl | (simp; done) | (simp [*]; done), by repeat (first | exact Drawn0.refl _ | apply Drawn0.step)⟩
  · rw [if_neg c3] at H
    have c3b0 : decide ((l0.length : Int) ≤ a1) = false := decide_eq_false c3
    clear c3
    by_cases c4 : 0 ≤ a1
    · rw [if_pos c4] at H
      have c4b0 : decide (0 ≤ a1) = true := decide_eq_true c4
      clear c4
      by_cases c5 : a1 < (l0.length : Int)
      · rw [if_pos c5] at H
        have c5b0 : decide (a1 < (l0.length : Int)) = true := decide_eq_true c5
        clear c5
        obtain rfl := Option.some.inj H
        simp only [Option.some.injEq, Prod.mk.injEq] at H
        obtain ⟨rfl⟩ := H
        have p127 : 0 ≤ (a1 : Int) := of_decide_eq_true (by first | (with_reducible assumption) | assumption)
        have q127 : a1 < (l0.length : Int) := of_decide_eq_true (by first | (with_reducible assumption) | assumption)
        obtain ⟨ad127, e127, hx127_0⟩ := Kd.at_int HR0.out a1 p127 q127
        cases e127
        replace p127 := eq_true p127
        replace q127 := eq_true q127
        go_enter Try.func72, Try.ntmps72
        go_wp2
        go_ret
        exact ⟨by first | rfl | (simp; done) | (simp [*]; done), by repeat (first | exact Drawn0.refl _ | apply Drawn0.step)⟩
      · rw [if_neg c5] at H
        exact absurd H (by simp)
    · rw [if_neg c4] at H
      exact absurd H (by simp)
mutual
def clepsydraref03_plus.l0 : Nat → List Int → List Int → List Int → Int → Int → Option (List Int)
  | 0, _, _, _, _, _ => none
  | k + 1, x0, x1, x5, x6, x7 => if x7 < (x0.length : Int) then (clepsydraref03_plus.j1 k x0 x1 x5 x6 x7 true) else (if x7 < (x1.length : Int) then (clepsydraref03_plus.j1 k x0 x1 x5 x6 x7 true) else (clepsydraref03_plus.j1 k x0 x1 x5 x6 x7 (decide (x6 > 0))))
def clepsydraref03_plus.j1 : Nat → List Int → List Int → List Int → Int → Int → Bool → Option (List Int)
  | 0, _, _, _, _, _, _ => none
  | k + 1, x0, x1, x5, x6, x7, x22 => if x22 = true then ((clepsydraref03_at.f x0 x7).bind fun t132 => ((clepsydraref03_at.f x1 x7).bind fun t133 => (if x5.length < 17592186044416 then (clepsydraref03_plus.l0 k x0 x1 (x5 ++ [Go.bits .and .i64 (wrap64 ((wrap64 (t132 + t133)) + x6)) 65535]) ((wrap64 ((wrap64 (t132 + t133)) + x6)) / 65536) (wrap64 (x7 + 1))) else (none)))) else (some x5)
end
def clepsydraref03_plus.f (k : Nat) (l0 : List Int) (l1 : List Int) : Option (List Int) := clepsydraref03_plus.l0 k l0 l1 ([] : List Int) 0 0
set_option maxHeartbeats 8000000 in
set_option maxRecDepth 100000 in
theorem clepsydraref03_plus.calls (k : Nat) (A0 : Option Addr) (c0 : Nat) (l0 : List Int) (A1 : Option Addr) (c1 : Nat) (l1 : List Int) (r : List Int) (w : World) (hr0 : Kd.C (Kd.int .i64) w A0 l0.length l0) (hc0 : l0.length ≤ c0) (hr1 : Kd.C (Kd.int .i64) w A1 l1.length l1) (hc1 : l1.length ≤ c1) (h : clepsydraref03_plus.f k l0 l1 = some r) :
    Calls Try.prog 47 #[.slice A0 l0.length c0, .slice A1 l1.length c1] w fun e w' => ∃ v0_ : Value, e = .returned (v0_) ∧ Kd.R (Kd.int .i64) 3 w' w.heap.size (fun _ => True) v0_ r ∧ Below w.heap.size w w' := by
  have HR0 := Aside0.mk hr0
  have HC0 := Aside0.mk hc0
  clear hr0 hc0
  have HR1 := Aside0.mk hr1
  have HC1 := Aside0.mk hc1
  clear hr1 hc1
  have HB := Aside0.mk (Below.refl w.heap.size w)
  have H : (clepsydraref03_plus.l0 k l0 l1 ([] : List Int) 0 0) = some r := h
  clear h
  have H' := Aside0.mk H
  clear H
  go_enter Try.func47, Try.ntmps47
  go_wp2
  go_loopg [5, 6, 7] k (fun kq v5 v6 v7 w' => ∃ (x5_1 : List Int) (x6_1 : Int) (x7_1 : Int), v6 = .int .i64 x6_1 ∧ v7 = .int .i64 x7_1 ∧ Aside0 (clepsydraref03_plus.l0 kq l0 l1 x5_1 x6_1 x7_1 = some r) ∧ Aside0 (kq ≤ k) ∧ Aside0 (Kd.R (Kd.int .i64) 3 w' w.heap.size (fun _ => True) v5 x5_1) ∧ Aside0 (Below w.heap.size w w'))
  case atStart => exact ⟨(([] : List Int)), (0), (0), (by first | rfl | (simp; done) | (simp [*]; done)), (by first | rfl | (simp; done) | (simp [*]; done)), H', ⟨Nat.le_refl _⟩, ⟨by first | exact Kd.R_nil _ _ _ _ _ | exact Kd.N_nil _ _ _ _ _ | exact Kd.V_nil _ _ _ _ _ | exact Kd.Q_nil _ _ _ _ _ | exact Kd.S_nil _ _ _ _ _⟩, ⟨by repeat (first | (with_reducible first | exact HB.out | apply below_alloc | apply pw_below_drewN | apply below_drew1) | exact HB.out)⟩⟩
  case round =>
    clear H'
    try clear c1
    try clear p2
    obtain ⟨x5_1, x6_1, x7_1, rfl, rfl, HA, HK1, HO_5, HB⟩ := hrel
    cases gk with
    | zero => exact absurd HA.out (by simp [clepsydraref03_plus.l0])
    | succ k1 =>
      have H := HA.out
      clear HA
      simp only [clepsydraref03_plus.l0] at H
      have HC3 := Aside0.mk H
      clear H
      go_upto_region 4 with (fail)
      go_cut [22] (fun v22 wc => ∃ (kq : Nat) (x22_2 : Bool), v22 = .bool x22_2 ∧ Aside0 (clepsydraref03_plus.j1 kq l0 l1 x5_1 x6_1 x7_1 x22_2 = some r) ∧ Aside0 (kq ≤ k1) ∧ Aside0 (Kd.R (Kd.int .i64) 3 wc w.heap.size (fun _ => True) u5 x5_1) ∧ Aside0 (Below w.heap.size w wc))
      case first =>
        have H := HC3.out
        clear HC3
        by_cases c4 : x7_1 < (l0.length : Int)
        · rw [if_pos c4] at H
          have c4b0 : decide (x7_1 < (l0.length : Int)) = true := decide_eq_true c4
          clear c4
          (first | rw [c4b0] | (simp only [i64_w, i32_w]; rw [c4b0]) | skip)
          have H' := Aside0.mk H
          clear H
          go_wp2
          go_meet
          case rel => exact ⟨_, (true), (by first | rfl | (simp; done) | (simp [*]; done)), H', ⟨by have := HK1.out; first | omega | exact Nat.le_refl _⟩, ⟨by (with_reducible repeat (first | apply Kd.R_alloc | apply Kd.R_drewN | apply Kd.R_drew)); exact HO_5.out⟩, ⟨by repeat (first | (with_reducible first | exact HB.out | apply below_alloc | apply pw_below_drewN | apply below_drew1) | exact HB.out)⟩⟩
        · rw [if_neg c4] at H
          have c4b0 : decide (x7_1 < (l0.length : Int)) = false := decide_eq_false c4
          clear c4
          (first | rw [c4b0] | (simp only [i64_w, i32_w]; rw [c4b0]) | skip)
          by_cases c5 : x7_1 < (l1.length : Int)
          · rw [if_pos c5] at H
            have c5b0 : decide (x7_1 < (l1.length : Int)) = true := decide_eq_true c5
            clear c5
            have H' := Aside0.mk H
            clear H
            go_wp2
            go_meet
            case rel => exact ⟨_, (true), (by first | rfl | (simp; done) | (simp [*]; done)), H', ⟨by have := HK1.out; first | omega | exact Nat.le_refl _⟩, ⟨by (with_reducible repeat (first | apply Kd.R_alloc | apply Kd.R_drewN | apply Kd.R_drew)); exact HO_5.out⟩, ⟨by repeat (first | (with_reducible first | exact HB.out | apply below_alloc | apply pw_below_drewN | apply below_drew1) | exact HB.out)⟩⟩
          · rw [if_neg c5] at H
            have c5b0 : decide (x7_1 < (l1.length : Int)) = false := decide_eq_false c5
            clear c5
            have H' := Aside0.mk H
            clear H
            go_wp2
            go_meet
            case rel => exact ⟨_, (decide (x6_1 > 0)), (by first | rfl | (simp; done) | (simp [*]; done)), H', ⟨by have := HK1.out; first | omega | exact Nat.le_refl _⟩, ⟨by (with_reducible repeat (first | apply Kd.R_alloc | apply Kd.R_drewN | apply Kd.R_drew)); exact HO_5.out⟩, ⟨by repeat (first | (with_reducible first | exact HB.out | apply below_alloc | apply pw_below_drewN | apply below_drew1) | exact HB.out)⟩⟩
      case rest =>
        clear HC3
        try clear c1
        try clear p2
        try clear c4
        try clear c4b0
        try clear c5
        try clear c5b0
        try clear p2
        obtain ⟨kq, x22_2, rfl, HA, HJ2, HO_5, HB⟩ := hcut
        cases kq with
        | zero => exact absurd HA.out (by simp [clepsydraref03_plus.j1])
        | succ kj2 =>
          have H := HA.out
          clear HA
          simp only [clepsydraref03_plus.j1] at H
          by_cases c6 : x22_2 = true
          · subst c6
            have H1 : ((clepsydraref03_at.f l0 x7_1).bind fun t132 => ((clepsydraref03_at.f l1 x7_1).bind fun t133 => (if x5_1.length < 17592186044416 then (clepsydraref03_plus.l0 kj2 l0 l1 (x5_1 ++ [Go.bits .and .i64 (wrap64 ((wrap64 (t132 + t133)) + x6_1)) 65535]) ((wrap64 ((wrap64 (t132 + t133)) + x6_1)) / 65536) (wrap64 (x7_1 + 1))) else (none)))) = some r := by rw [if_pos rfl] at H; exact H
            clear H
            have H := H1
            clear H1
            replace H := Option.bind_eq_some_iff.mp H
            obtain ⟨t132, A70, H⟩ := H
            replace H : ((clepsydraref03_at.f l1 x7_1).bind fun t133 => (if x5_1.length < 17592186044416 then (clepsydraref03_plus.l0 kj2 l0 l1 (x5_1 ++ [Go.bits .and .i64 (wrap64 ((wrap64 (t132 + t133)) + x6_1)) 65535]) ((wrap64 ((wrap64 (t132 + t133)) + x6_1)) / 65536) (wrap64 (x7_1 + 1))) else (none))) = some r := H
            have A7 := Aside0.mk A70
            clear A70
            replace H := Option.bind_eq_some_iff.mp H
            obtain ⟨t133, A80, H⟩ := H
            replace H : (if x5_1.length < 17592186044416 then (clepsydraref03_plus.l0 kj2 l0 l1 (x5_1 ++ [Go.bits .and .i64 (wrap64 ((wrap64 (t132 + t133)) + x6_1)) 65535]) ((wrap64 ((wrap64 (t132 + t133)) + x6_1)) / 65536) (wrap64 (x7_1 + 1))) else (none)) = some r := H
            have A8 := Aside0.mk A80
            clear A80
            by_cases c9 : x5_1.length < 17592186044416
            · rw [if_pos c9] at H
              have LMc9 := Aside0.mk c9
              clear c9
              obtain ⟨y134, hy134⟩ : ∃ y_ : List Int, y_ = (x5_1 ++ [Go.bits .and .i64 (wrap64 ((wrap64 (t132 + t133)) + x6_1)) 65535]) := ⟨_, rfl⟩
              replace H : (clepsydraref03_plus.l0 kj2 l0 l1 y134 ((wrap64 ((wrap64 (t132 + t133)) + x6_1)) / 65536) (wrap64 (x7_1 + 1))) = some r := by first | (rw [hy134]; with_reducible exact H) | (have H2_ := (Option.bind_some _ _).symm.trans H; rw [hy134]; with_reducible exact H2_) | (have H2_ := (Option.bind_some _ _).symm.trans H; with_reducible exact H2_) | with_reducible exact H | (rw [hy134]; exact H) | exact H
              have Ny134 := Aside0.mk hy134
              clear hy134
              have H' := Aside0.mk H
              clear H
              go_wp2_with (first | ((with_reducible refine gate_callee (f := 72) rfl ?_); refine goesL_ (some 27) rfl rfl Try.func72 (by kernel_rfl) rfl #[.slice A0 l0.length c0, .int .i64 x7_1] rfl (by (try simp only [List.map_toArray, List.map_cons, List.map_nil]); first | done | rfl | (simp only [List.length_drop, List.length_take]; rfl)) ?_; (with_reducible refine (clepsydraref03_at.calls _ _ l0 x7_1 t132 _ ?side1 ?side2 A7.out).mono ?_); (case side1 => repeat (first | exact (Kd.C_below HR0.out HB.out) | (with_reducible refine Kd.C_alloc ?_ _) | (with_reducible refine Kd.C_drewN ?_ _) | (with_reducible refine Kd.C_drew ?_))); (case side2 => exact HC0.out); rintro e w' ⟨rfl, ⟨nd, rfl⟩⟩; refine ⟨_, rfl, ?_⟩) | ((with_reducible refine gate_callee (f := 72) rfl ?_); refine goesL_ (some 30) rfl rfl Try.func72 (by kernel_rfl) rfl #[.slice A1 l1.length c1, .int .i64 x7_1] rfl (by (try simp only [List.map_toArray, List.map_cons, List.map_nil]); first | done | rfl | (simp only [List.length_drop, List.length_take]; rfl)) ?_; (with_reducible refine (clepsydraref03_at.calls _ _ l1 x7_1 t133 _ ?side1 ?side2 A8.out).mono ?_); (case side1 => repeat (first | exact (Kd.C_below HR1.out (by repeat (first | (with_reducible first | exact HB.out | apply below_alloc | apply pw_below_drewN | apply below_drew1) | exact HB.out))) | (with_reducible refine Kd.C_alloc ?_ _) | (with_reducible refine Kd.C_drewN ?_ _) | (with_reducible refine Kd.C_drew ?_))); (case side2 => exact HC1.out); rintro e w' ⟨rfl, ⟨nd, rfl⟩⟩; refine ⟨_, rfl, ?_⟩) | ((with_reducible refine gate_builtin (b := .append) (xs := #[.tmp 34, .tmp 37]) rfl ?_); (try (refine gate_guard (by rfl) ?_; dsimp only)); at_builtin; refine Kd.R_append (Kd.int .i64) (w0 := w) w.heap.size rfl (.tmp 34) (.tmp 37) 44 3 (.int .i64 0) 8 rfl Try.underlying44 info3 rfl (by decide) (by omega) u5 x5_1 (Go.bits .and .i64 (wrap64 ((wrap64 (t132 + t133)) + x6_1)) 65535) [.int .i64 (Go.bits .and .i64 (wrap64 ((wrap64 (t132 + t133)) + x6_1)) 65535)] (fun _ => True) (fun _ => False) rfl rfl ?aP (fun _ hk => hk.elim) ?aF ?aO ?aB ?aS ?aL ?_; (case aP => exact rfl); (case aB => exact (by repeat (first | (with_reducible first | exact HB.out | apply below_alloc | apply pw_below_drewN | apply below_drew1) | exact HB.out))); (case aF => exact (fun _ _ => trivial)); (case aO => exact (by (with_reducible repeat (first | apply Kd.R_alloc | apply Kd.R_drewN | apply Kd.R_drew)); exact HO_5.out)); (case aS => exact (below_size (by repeat (first | (with_reducible first | exact HB.out | apply below_alloc | apply pw_below_drewN | apply below_drew1) | exact HB.out)))); (case aL => have := LMc9.out; omega); intro v135 w10 ho hb hg hat; rw [← Ny134.out] at ho; have n0_ := Aside0.mk (hb); have n1_ := Aside0.mk (ho); clear HB; clear HO_5; have HB := n0_; have HO136 := n1_; clear n0_ n1_; clear ho hb hg hat))
              go_roundg kj2
              case measure => have := HK1.out; have := HJ2.out; omega
              case rel => exact ⟨(y134), ((wrap64 ((wrap64 (t132 + t133)) + x6_1)) / 65536), (wrap64 (x7_1 + 1)), (by first | rfl | (simp; done) | (simp [*]; done)), (by first | rfl | (simp; done) | (simp [*]; done)), H', ⟨by have := HK1.out; have := HJ2.out; omega⟩, ⟨by (with_reducible repeat (first | apply Kd.R_alloc | apply Kd.R_drewN | apply Kd.R_drew)); exact HO136.out⟩, ⟨by repeat (first | (with_reducible first | exact HB.out | apply below_alloc | apply pw_below_drewN | apply below_drew1) | exact HB.out)⟩⟩
            · rw [if_neg c9] at H
              exact absurd H (by simp)
          · replace c6 := Bool.eq_false_iff.mpr c6
            subst c6
            have H1 : (some x5_1) = some r := by rw [if_neg (show ¬ (false = true) by decide)] at H; exact H
            clear H
            have H := H1
            clear H1
            obtain rfl := Option.some.inj H
            simp only [Option.some.injEq, Prod.mk.injEq] at H
            obtain ⟨rfl⟩ := H
            go_wp2
            go_ret
            exact ⟨_, by first | rfl | (simp [errW_none, errW_some] <;> rfl) | (simp [*, errW_none, errW_some] <;> rfl), by (with_reducible repeat (first | apply Kd.R_alloc | apply Kd.R_drewN | apply Kd.R_drew)); exact HO_5.out, by repeat (first | (with_reducible first | exact HB.out | apply below_alloc | apply pw_below_drewN | apply below_drew1) | exact HB.out)⟩
end Go.Proofs.Yteelppebdcgbpaa.Cq
namespace Go.Proofs.Yteelppebdcgbpaa.Cq
open Go.RowKit Go.Proofs.YteelppebdcgbpaaW.PrintWords Go.Proofs.YteelppebdcgbpaaW.PrintLast Go.Proofs.YteelppebdcgbpaaW.PrintMore
attribute [local go_sem] max2_int min2_int max_two min_two max_three min_three max_four min_four   -- for this text's walks alone
set_option linter.unusedVariables false
set_option linter.unusedSimpArgs false
def clepsydraref03_minus.l0 : Nat → List Int → List Int → List Int → Int → Int → Option (List Int)
  | 0, _, _, _, _, _ => none
  | k + 1, x0, x1, x5, x6, x7 => if x7 < (x0.length : Int) then (if 0 ≤ x7 then ((clepsydraref03_at.f x1 x7).bind fun t138 => (if (wrap64 ((wrap64 ((rd x0 x7) - t138)) - x6)) < 0 then (if x5.length < 17592186044416 then (clepsydraref03_minus.l0 k x0 x1 (x5 ++ [wrap64 ((wrap64 ((wrap64 ((rd x0 x7) - t138)) - x6)) + 65536)]) 1 (wrap64 (x7 + 1))) else (none)) else (if x5.length < 17592186044416 then (clepsydraref03_minus.l0 k x0 x1 (x5 ++ [wrap64 ((wrap64 ((rd x0 x7) - t138)) - x6)]) 0 (wrap64 (x7 + 1))) else (none)))) else (none)) else ((clepsydraref03_cut.f k x5).bind fun t145 => (some t145))
def clepsydraref03_minus.f (k : Nat) (l0 : List Int) (l1 : List Int) : Option (List Int) := clepsydraref03_minus.l0 k l0 l1 ([] : List Int) 0 0
set_option maxHeartbeats 8000000 in
set_option maxRecDepth 100000 in
theorem clepsydraref03_minus.calls (k : Nat) (A0 : Option Addr) (c0 : Nat) (l0 : List Int) (A1 : Option Addr) (c1 : Nat) (l1 : List Int) (r : List Int) (w : World) (hr0 : Kd.C (Kd.int .i64) w A0 l0.length l0) (hc0 : l0.length ≤ c0) (hr1 : Kd.C (Kd.int .i64) w A1 l1.length l1) (hc1 : l1.length ≤ c1) (h : clepsydraref03_minus.f k l0 l1 = some r) :
    Calls Try.prog 46 #[.slice A0 l0.length c0, .slice A1 l1.length c1] w fun e w' => ∃ v0_ : Value, e = .returned (v0_) ∧ Kd.R (Kd.int .i64) 3 w' w.heap.size (fun _ => True) v0_ r ∧ Below w.heap.size w w' := by
  have HR0 := Aside0.mk hr0
  have HC0 := Aside0.mk hc0
  clear hr0 hc0
  have HR1 := Aside0.mk hr1
  have HC1 := Aside0.mk hc1
  clear hr1 hc1
  have HB := Aside0.mk (Below.refl w.heap.size w)
  have H : (clepsydraref03_minus.l0 k l0 l1 ([] : List Int) 0 0) = some r := h
  clear h
  have H' := Aside0.mk H
  clear H
  go_enter Try.func46, Try.ntmps46
  go_wp2
  repeat (go_quiet (fail); try go_wp2)
  go_loopg [5, 6, 7] k (fun kq v5 v6 v7 w' => ∃ (x5_1 : List Int) (x6_1 : Int) (x7_1 : Int), v6 = .int .i64 x6_1 ∧ v7 = .int .i64 x7_1 ∧ Aside0 (clepsydraref03_minus.l0 kq l0 l1 x5_1 x6_1 x7_1 = some r) ∧ Aside0 (kq ≤ k) ∧ Aside0 (Kd.R (Kd.int .i64) 3 w' w.heap.size (fun _ => True) v5 x5_1) ∧ Aside0 (Below w.heap.size w w'))
  case atStart => exact ⟨(([] : List Int)), (0), (0), (by first | rfl | (simp; done) | (simp [*]; done)), (by first | rfl | (simp; done) | (simp [*]; done)), H', ⟨Nat.le_refl _⟩, ⟨by first | exact Kd.R_nil _ _ _ _ _ | exact Kd.N_nil _ _ _ _ _ | exact Kd.V_nil _ _ _ _ _ | exact Kd.Q_nil _ _ _ _ _ | exact Kd.S_nil _ _ _ _ _⟩, ⟨by repeat (first | (with_reducible first | exact HB.out | apply below_alloc | apply pw_below_drewN | apply below_drew1) | exact HB.out)⟩⟩
  case round =>
    clear H'
    try clear c1
    try clear p2
    obtain ⟨x5_1, x6_1, x7_1, rfl, rfl, HA, HK1, HO_5, HB⟩ := hrel
    cases gk with
    | zero => exact absurd HA.out (by simp [clepsydraref03_minus.l0])
    | succ k1 =>
      have H := HA.out
      clear HA
      simp only [clepsydraref03_minus.l0] at H
      by_cases c3 : x7_1 < (l0.length : Int)
      · rw [if_pos c3] at H
        have c3b0 : decide (x7_1 < (l0.length : Int)) = true := decide_eq_true c3
        clear c3
        by_cases c4 : 0 ≤ x7_1
        · rw [if_pos c4] at H
          have c4b0 : decide (0 ≤ x7_1) = true := decide_eq_true c4
          clear c4
          replace H := Option.bind_eq_some_iff.mp H
          obtain ⟨t138, A50, H⟩ := H
          replace H : (if (wrap64 ((wrap64 ((rd l0 x7_1) - t138)) - x6_1)) < 0 then (if x5_1.length < 17592186044416 then (clepsydraref03_minus.l0 k1 l0 l1 (x5_1 ++ [wrap64 ((wrap64 ((wrap64 ((rd l0 x7_1) - t138)) - x6_1)) + 65536)]) 1 (wrap64 (x7_1 + 1))) else (none)) else (if x5_1.length < 17592186044416 then (clepsydraref03_minus.l0 k1 l0 l1 (x5_1 ++ [wrap64 ((wrap64 ((rd l0 x7_1) - t138)) - x6_1)]) 0 (wrap64 (x7_1 + 1))) else (none))) = some r := H
          have A5 := Aside0.mk A50
          clear A50
          by_cases c6 : (wrap64 ((wrap64 ((rd l0 x7_1) - t138)) - x6_1)) < 0
          · rw [if_pos c6] at H
            have c6b0 : decide ((wrap64 ((wrap64 ((rd l0 x7_1) - t138)) - x6_1)) < 0) = true := decide_eq_true c6
            clear c6
            by_cases c7 : x5_1.length < 17592186044416
            · rw [if_pos c7] at H
              have LMc7 := Aside0.mk c7
              clear c7
              obtain ⟨y139, hy139⟩ : ∃ y_ : List Int, y_ = (x5_1 ++ [wrap64 ((wrap64 ((wrap64 ((rd l0 x7_1) - t138)) - x6_1)) + 65536)]) := ⟨_, rfl⟩
              replace H : (clepsydraref03_minus.l0 k1 l0 l1 y139 1 (wrap64 (x7_1 + 1))) = some r := by first | (rw [hy139]; with_reducible exact H) | (have H2_ := (Option.bind_some _ _).symm.trans H; rw [hy139]; with_reducible exact H2_) | (have H2_ := (Option.bind_some _ _).symm.trans H; with_reducible exact H2_) | with_reducible exact H | (rw [hy139]; exact H) | exact H
              have Ny139 := Aside0.mk hy139
              clear hy139
              have H' := Aside0.mk H
              clear H
              have p137 : 0 ≤ (x7_1 : Int) := of_decide_eq_true (by first | (with_reducible assumption) | assumption)
              have q137 : x7_1 < (l0.length : Int) := of_decide_eq_true (by first | (with_reducible assumption) | assumption)
              obtain ⟨ad137, e137, hx137_0⟩ := Kd.at_int HR0.out x7_1 p137 q137
              cases e137
              replace hx137_0 := (HB.out.cell (World.block_lt_of_cell? w _ hx137_0)).trans hx137_0
              replace p137 := eq_true p137
              replace q137 := eq_true q137
              go_wp2_with (first | (go_at_call 72; (with_reducible refine (clepsydraref03_at.calls _ _ l1 x7_1 t138 _ ?side1 ?side2 A5.out).mono ?_); (case side1 => repeat (first | exact (Kd.C_below HR1.out HB.out) | (with_reducible refine Kd.C_alloc ?_ _) | (with_reducible refine Kd.C_drewN ?_ _) | (with_reducible refine Kd.C_drew ?_))); (case side2 => exact HC1.out); rintro e w' ⟨rfl, ⟨nd, rfl⟩⟩; (try first | exact ⟨rfl, _, World.drewN_drewN _ _ _⟩ | exact ⟨rfl, _, Eq.trans (World.drewN_drewN _ _ _) (congrArg (World.drewN _) (Nat.add_assoc _ _ _))⟩)) | ((with_reducible refine gate_builtin (b := .append) (xs := #[.tmp 29, .tmp 31]) rfl ?_); at_builtin; refine Kd.R_append (Kd.int .i64) (w0 := w) w.heap.size rfl (.tmp 29) (.tmp 31) 44 3 (.int .i64 0) 8 rfl Try.underlying44 info3 rfl (by decide) (by omega) u5 x5_1 (wrap64 ((wrap64 ((wrap64 ((rd l0 x7_1) - t138)) - x6_1)) + 65536)) [.int .i64 (wrap64 ((wrap64 ((wrap64 ((rd l0 x7_1) - t138)) - x6_1)) + 65536))] (fun _ => True) (fun _ => False) rfl rfl ?aP (fun _ hk => hk.elim) ?aF ?aO ?aB ?aS ?aL ?_; (case aP => exact rfl); (case aB => exact (by repeat (first | (with_reducible first | exact HB.out | apply below_alloc | apply pw_below_drewN | apply below_drew1) | exact HB.out))); (case aF => exact (fun _ _ => trivial)); (case aO => exact (by (with_reducible repeat (first | apply Kd.R_alloc | apply Kd.R_drewN | apply Kd.R_drew)); exact HO_5.out)); (case aS => exact (below_size (by repeat (first | (with_reducible first | exact HB.out | apply below_alloc | apply pw_below_drewN | apply below_drew1) | exact HB.out)))); (case aL => have := LMc7.out; omega); intro v140 w8 ho hb hg hat; rw [← Ny139.out] at ho; have n0_ := Aside0.mk (hb); have n1_ := Aside0.mk (ho); clear HB; clear HO_5; have HB := n0_; have HO141 := n1_; clear n0_ n1_; clear ho hb hg hat))
              repeat (go_quiet (first | (go_at_call 72; (with_reducible refine (clepsydraref03_at.calls _ _ l1 x7_1 t138 _ ?side1 ?side2 A5.out).mono ?_); (case side1 => repeat (first | exact (Kd.C_below HR1.out HB.out) | (with_reducible refine Kd.C_alloc ?_ _) | (with_reducible refine Kd.C_drewN ?_ _) | (with_reducible refine Kd.C_drew ?_))); (case side2 => exact HC1.out); rintro e w' ⟨rfl, ⟨nd, rfl⟩⟩; (try first | exact ⟨rfl, _, World.drewN_drewN _ _ _⟩ | exact ⟨rfl, _, Eq.trans (World.drewN_drewN _ _ _) (congrArg (World.drewN _) (Nat.add_assoc _ _ _))⟩)) | ((with_reducible refine gate_builtin (b := .append) (xs := #[.tmp 29, .tmp 31]) rfl ?_); at_builtin; refine Kd.R_append (Kd.int .i64) (w0 := w) w.heap.size rfl (.tmp 29) (.tmp 31) 44 3 (.int .i64 0) 8 rfl Try.underlying44 info3 rfl (by decide) (by omega) u5 x5_1 (wrap64 ((wrap64 ((wrap64 ((rd l0 x7_1) - t138)) - x6_1)) + 65536)) [.int .i64 (wrap64 ((wrap64 ((wrap64 ((rd l0 x7_1) - t138)) - x6_1)) + 65536))] (fun _ => True) (fun _ => False) rfl rfl ?aP (fun _ hk => hk.elim) ?aF ?aO ?aB ?aS ?aL ?_; (case aP => exact rfl); (case aB => exact (by repeat (first | (with_reducible first | exact HB.out | apply below_alloc | apply pw_below_drewN | apply below_drew1) | exact HB.out))); (case aF => exact (fun _ _ => trivial)); (case aO => exact (by (with_reducible repeat (first | apply Kd.R_alloc | apply Kd.R_drewN | apply Kd.R_drew)); exact HO_5.out)); (case aS => exact (below_size (by repeat (first | (with_reducible first | exact HB.out | apply below_alloc | apply pw_below_drewN | apply below_drew1) | exact HB.out)))); (case aL => have := LMc7.out; omega); intro v140 w8 ho hb hg hat; rw [← Ny139.out] at ho; have n0_ := Aside0.mk (hb); have n1_ := Aside0.mk (ho); clear HB; clear HO_5; have HB := n0_; have HO141 := n1_; clear n0_ n1_; clear ho hb hg hat)); try go_wp2_with (first | (go_at_call 72; (with_reducible refine (clepsydraref03_at.calls _ _ l1 x7_1 t138 _ ?side1 ?side2 A5.out).mono ?_); (case side1 => repeat (first | exact (Kd.C_below HR1.out HB.out) | (with_reducible refine Kd.C_alloc ?_ _) | (with_reducible refine Kd.C_drewN ?_ _) | (with_reducible refine Kd.C_drew ?_))); (case side2 => exact HC1.out); rintro e w' ⟨rfl, ⟨nd, rfl⟩⟩; (try first | exact ⟨rfl, _, World.drewN_drewN _ _ _⟩ | exact ⟨rfl, _, Eq.trans (World.drewN_drewN _ _ _) (congrArg (World.drewN _) (Nat.add_assoc _ _ _))⟩)) | ((with_reducible refine gate_builtin (b := .append) (xs := #[.tmp 29, .tmp 31]) rfl ?_); at_builtin; refine Kd.R_append (Kd.int .i64) (w0 := w) w.heap.size rfl (.tmp 29) (.tmp 31) 44 3 (.int .i64 0) 8 rfl Try.underlying44 info3 rfl (by decide) (by omega) u5 x5_1 (wrap64 ((wrap64 ((wrap64 ((rd l0 x7_1) - t138)) - x6_1)) + 65536)) [.int .i64 (wrap64 ((wrap64 ((wrap64 ((rd l0 x7_1) - t138)) - x6_1)) + 65536))] (fun _ => True) (fun _ => False) rfl rfl ?aP (fun _ hk => hk.elim) ?aF ?aO ?aB ?aS ?aL ?_; (case aP => exact rfl); (case aB => exact (by repeat (first | (with_reducible first | exact HB.out | apply below_alloc | apply pw_below_drewN | apply below_drew1) | exact HB.out))); (case aF => exact (fun _ _ => trivial)); (case aO => exact (by (with_reducible repeat (first | apply Kd.R_alloc | apply Kd.R_drewN | apply Kd.R_drew)); exact HO_5.out)); (case aS => exact (below_size (by repeat (first | (with_reducible first | exact HB.out | apply below_alloc | apply pw_below_drewN | apply below_drew1) | exact HB.out)))); (case aL => have := LMc7.out; omega); intro v140 w8 ho hb hg hat; rw [← Ny139.out] at ho; have n0_ := Aside0.mk (hb); have n1_ := Aside0.mk (ho); clear HB; clear HO_5; have HB := n0_; have HO141 := n1_; clear n0_ n1_; clear ho hb hg hat)))
              go_roundg k1
              case measure => have := HK1.out; omega
              case rel => exact ⟨(y139), (1), (wrap64 (x7_1 + 1)), (by first | rfl | (simp; done) | (simp [*]; done)), (by first | rfl | (simp; done) | (simp [*]; done)), H', ⟨by have := HK1.out; omega⟩, ⟨by (with_reducible repeat (first | apply Kd.R_alloc | apply Kd.R_drewN | apply Kd.R_drew)); exact HO141.out⟩, ⟨by repeat (first | (with_reducible first | exact HB.out | apply below_alloc | apply pw_below_drewN | apply below_drew1) | exact HB.out)⟩⟩
            · rw [if_neg c7] at H
              exact absurd H (by simp)
          · rw [if_neg c6] at H
            have c6b0 : decide ((wrap64 ((wrap64 ((rd l0 x7_1) - t138)) - x6_1)) < 0) = false := decide_eq_false c6
            clear c6
            by_cases c9 : x5_1.length < 17592186044416
            · rw [if_pos c9] at H
              have LMc9 := Aside0.mk c9
              clear c9
              obtain ⟨y142, hy142⟩ : ∃ y_ : List Int, y_ = (x5_1 ++ [wrap64 ((wrap64 ((rd l0 x7_1) - t138)) - x6_1)]) := ⟨_, rfl⟩
              replace H : (clepsydraref03_minus.l0 k1 l0 l1 y142 0 (wrap64 (x7_1 + 1))) = some r := by first | (rw [hy142]; with_reducible exact H) | (have H2_ := (Option.bind_some _ _).symm.trans H; rw [hy142]; with_reducible exact H2_) | (have H2_ := (Option.bind_some _ _).symm.trans H; with_reducible exact H2_) | with_reducible exact H | (rw [hy142]; exact H) | exact H
              have Ny142 := Aside0.mk hy142
              clear hy142
              have H' := Aside0.mk H
              clear H
              have p137 : 0 ≤ (x7_1 : Int) := of_decide_eq_true (by first | (with_reducible assumption) | assumption)
              have q137 : x7_1 < (l0.length : Int) := of_decide_eq_true (by first | (with_reducible assumption) | assumption)
              obtain ⟨ad137, e137, hx137_0⟩ := Kd.at_int HR0.out x7_1 p137 q137
              cases e137
              replace hx137_0 := (HB.out.cell (World.block_lt_of_cell? w _ hx137_0)).trans hx137_0
              replace p137 := eq_true p137
              replace q137 := eq_true q137
              go_wp2_with (first | (go_at_call 72; (with_reducible refine (clepsydraref03_at.calls _ _ l1 x7_1 t138 _ ?side1 ?side2 A5.out).mono ?_); (case side1 => repeat (first | exact (Kd.C_below HR1.out HB.out) | (with_reducible refine Kd.C_alloc ?_ _) | (with_reducible refine Kd.C_drewN ?_ _) | (with_reducible refine Kd.C_drew ?_))); (case side2 => exact HC1.out); rintro e w' ⟨rfl, ⟨nd, rfl⟩⟩; (try first | exact ⟨rfl, _, World.drewN_drewN _ _ _⟩ | exact ⟨rfl, _, Eq.trans (World.drewN_drewN _ _ _) (congrArg (World.drewN _) (Nat.add_assoc _ _ _))⟩)) | ((with_reducible refine gate_builtin (b := .append) (xs := #[.tmp 29, .tmp 31]) rfl ?_); at_builtin; refine Kd.R_append (Kd.int .i64) (w0 := w) w.heap.size rfl (.tmp 29) (.tmp 31) 44 3 (.int .i64 0) 8 rfl Try.underlying44 info3 rfl (by decide) (by omega) u5 x5_1 (wrap64 ((wrap64 ((rd l0 x7_1) - t138)) - x6_1)) [.int .i64 (wrap64 ((wrap64 ((rd l0 x7_1) - t138)) - x6_1))] (fun _ => True) (fun _ => False) rfl rfl ?aP (fun _ hk => hk.elim) ?aF ?aO ?aB ?aS ?aL ?_; (case aP => exact rfl); (case aB => exact (by repeat (first | (with_reducible first | exact HB.out | apply below_alloc | apply pw_below_drewN | apply below_drew1) | exact HB.out))); (case aF => exact (fun _ _ => trivial)); (case aO => exact (by (with_reducible repeat (first | apply Kd.R_alloc | apply Kd.R_drewN | apply Kd.R_drew)); exact HO_5.out)); (case aS => exact (below_size (by repeat (first | (with_reducible first | exact HB.out | apply below_alloc | apply pw_below_drewN | apply below_drew1) | exact HB.out)))); (case aL => have := LMc9.out; omega); intro v143 w10 ho hb hg hat; rw [← Ny142.out] at ho; have n0_ := Aside0.mk (hb); have n1_ := Aside0.mk (ho); clear HB; clear HO_5; have HB := n0_; have HO144 := n1_; clear n0_ n1_; clear ho hb hg hat))
              repeat (go_quiet (first | (go_at_call 72; (with_reducible refine (clepsydraref03_at.calls _ _ l1 x7_1 t138 _ ?side1 ?side2 A5.out).mono ?_); (case side1 => repeat (first | exact (Kd.C_below HR1.out HB.out) | (with_reducible refine Kd.C_alloc ?_ _) | (with_reducible refine Kd.C_drewN ?_ _) | (with_reducible refine Kd.C_drew ?_))); (case side2 => exact HC1.out); rintro e w' ⟨rfl, ⟨nd, rfl⟩⟩; (try first | exact ⟨rfl, _, World.drewN_drewN _ _ _⟩ | exact ⟨rfl, _, Eq.trans (World.drewN_drewN _ _ _) (congrArg (World.drewN _) (Nat.add_assoc _ _ _))⟩)) | ((with_reducible refine gate_builtin (b := .append) (xs := #[.tmp 29, .tmp 31]) rfl ?_); at_builtin; refine Kd.R_append (Kd.int .i64) (w0 := w) w.heap.size rfl (.tmp 29) (.tmp 31) 44 3 (.int .i64 0) 8 rfl Try.underlying44 info3 rfl (by decide) (by omega) u5 x5_1 (wrap64 ((wrap64 ((rd l0 x7_1) - t138)) - x6_1)) [.int .i64 (wrap64 ((wrap64 ((rd l0 x7_1) - t138)) - x6_1))] (fun _ => True) (fun _ => False) rfl rfl ?aP (fun _ hk => hk.elim) ?aF ?aO ?aB ?aS ?aL ?_; (case aP => exact rfl); (case aB => exact (by repeat (first | (with_reducible first | exact HB.out | apply below_alloc | apply pw_below_drewN | apply below_drew1) | exact HB.out))); (case aF => exact (fun _ _ => trivial)); (case aO => exact (by (with_reducible repeat (first | apply Kd.R_alloc | apply Kd.R_drewN | apply Kd.R_drew)); exact HO_5.out)); (case aS => exact (below_size (by repeat (first | (with_reducible first | exact HB.out | apply below_alloc | apply pw_below_drewN | apply below_drew1) | exact HB.out)))); (case aL => have := LMc9.out; omega); intro v143 w10 ho hb hg hat; rw [← Ny142.out] at ho; have n0_ := Aside0.mk (hb); have n1_ := Aside0.mk (ho); clear HB; clear HO_5; have HB := n0_; have HO144 := n1_; clear n0_ n1_; clear ho hb hg hat)); try go_wp2_with (first | (go_at_call 72; (with_reducible refine (clepsydraref03_at.calls _ _ l1 x7_1 t138 _ ?side1 ?side2 A5.out).mono ?_); (case side1 => repeat (first | exact (Kd.C_below HR1.out HB.out) | (with_reducible refine Kd.C_alloc ?_ _) | (with_reducible refine Kd.C_drewN ?_ _) | (with_reducible refine Kd.C_drew ?_))); (case side2 => exact HC1.out); rintro e w' ⟨rfl, ⟨nd, rfl⟩⟩; (try first | exact ⟨rfl, _, World.drewN_drewN _ _ _⟩ | exact ⟨rfl, _, Eq.trans (World.drewN_drewN _ _ _) (congrArg (World.drewN _) (Nat.add_assoc _ _ _))⟩)) | ((with_reducible refine gate_builtin (b := .append) (xs := #[.tmp 29, .tmp 31]) rfl ?_); at_builtin; refine Kd.R_append (Kd.int .i64) (w0 := w) w.heap.size rfl (.tmp 29) (.tmp 31) 44 3 (.int .i64 0) 8 rfl Try.underlying44 info3 rfl (by decide) (by omega) u5 x5_1 (wrap64 ((wrap64 ((rd l0 x7_1) - t138)) - x6_1)) [.int .i64 (wrap64 ((wrap64 ((rd l0 x7_1) - t138)) - x6_1))] (fun _ => True) (fun _ => False) rfl rfl ?aP (fun _ hk => hk.elim) ?aF ?aO ?aB ?aS ?aL ?_; (case aP => exact rfl); (case aB => exact (by repeat (first | (with_reducible first | exact HB.out | apply below_alloc | apply pw_below_drewN | apply below_drew1) | exact HB.out))); (case aF => exact (fun _ _ => trivial)); (case aO => exact (by (with_reducible repeat (first | apply Kd.R_alloc | apply Kd.R_drewN | apply Kd.R_drew)); exact HO_5.out)); (case aS => exact (below_size (by repeat (first | (with_reducible first | exact HB.out | apply below_alloc | apply pw_below_drewN | apply below_drew1) | exact HB.out)))); (case aL => have := LMc9.out; omega); intro v143 w10 ho hb hg hat; rw [← Ny142.out] at ho; have n0_ := Aside0.mk (hb); have n1_ := Aside0.mk (ho); clear HB; clear HO_5; have HB := n0_; have HO144 := n1_; clear n0_ n1_; clear ho hb hg hat)))
              go_roundg k1
              case measure => have := HK1.out; omega
              case rel => exact ⟨(y142), (0), (wrap64 (x7_1 + 1)), (by first | rfl | (simp; done) | (simp [*]; done)), (by first | rfl | (simp; done) | (simp [*]; done)), H', ⟨by have := HK1.out; omega⟩, ⟨by (with_reducible repeat (first | apply Kd.R_alloc | apply Kd.R_drewN | apply Kd.R_drew)); exact HO144.out⟩, ⟨by repeat (first | (with_reducible first | exact HB.out | apply below_alloc | apply pw_below_drewN | apply below_drew1) | exact HB.out)⟩⟩
            · rw [if_neg c9] at H
              exact absurd H (by simp)
        · rw [if_neg c4] at H
          exact absurd H (by simp)
      · rw [if_neg c3] at H
        have c3b0 : decide (x7_1 < (l0.length : Int)) = false := decide_eq_false c3
        clear c3
        replace H := Option.bind_eq_some_iff.mp H
        obtain ⟨t145, A110, H⟩ := H
        replace H : (some t145) = some r := H
        have A11 := Aside0.mk A110
        clear A110
        obtain rfl := Option.some.inj H
        simp only [Option.some.injEq, Prod.mk.injEq] at H
        obtain ⟨rfl⟩ := H
        obtain ⟨Ao12, co12, eo12⟩ := Kd.R_slice HO_5.out
        subst eo12
        go_wp2_with (first | (go_at_call 63; (with_reducible refine (clepsydraref03_cut.calls k1 (fun k_ => some k_ = (.slice Ao12 x5_1.length co12 : Value).ownBlock) (.slice Ao12 x5_1.length co12) x5_1 t145 w _ ?side1 ?side2 A11.out).mono ?_); (case side1 => repeat (first | (with_reducible first | exact HB.out | apply below_alloc | apply pw_below_drewN | apply below_drew1) | exact HB.out)); (case side2 => exact Kd.R_tight rfl HO_5.out); rintro e w13 ⟨v146, rfl, ho0, hb, hkp⟩; have n0_ := Aside0.mk (Kd.R_mono (ok' := fun k_ => True) ho0 (fun k_ hk_ => trivial)); have n1_ := Aside0.mk (hb); clear HB; clear HO_5; have HO147 := n0_; have HB := n1_; clear n0_ n1_; (try clear hb); (try clear hkp); (try clear ho0)))
        repeat (go_quiet (first | (go_at_call 63; (with_reducible refine (clepsydraref03_cut.calls k1 (fun k_ => some k_ = (.slice Ao12 x5_1.length co12 : Value).ownBlock) (.slice Ao12 x5_1.length co12) x5_1 t145 w _ ?side1 ?side2 A11.out).mono ?_); (case side1 => repeat (first | (with_reducible first | exact HB.out | apply below_alloc | apply pw_below_drewN | apply below_drew1) | exact HB.out)); (case side2 => exact Kd.R_tight rfl HO_5.out); rintro e w13 ⟨v146, rfl, ho0, hb, hkp⟩; have n0_ := Aside0.mk (Kd.R_mono (ok' := fun k_ => True) ho0 (fun k_ hk_ => trivial)); have n1_ := Aside0.mk (hb); clear HB; clear HO_5; have HO147 := n0_; have HB := n1_; clear n0_ n1_; (try clear hb); (try clear hkp); (try clear ho0))); try go_wp2_with (first | (go_at_call 63; (with_reducible refine (clepsydraref03_cut.calls k1 (fun k_ => some k_ = (.slice Ao12 x5_1.length co12 : Value).ownBlock) (.slice Ao12 x5_1.length co12) x5_1 t145 w _ ?side1 ?side2 A11.out).mono ?_); (case side1 => repeat (first | (with_reducible first | exact HB.out | apply below_alloc | apply pw_below_drewN | apply below_drew1) | exact HB.out)); (case side2 => exact Kd.R_tight rfl HO_5.out); rintro e w13 ⟨v146, rfl, ho0, hb, hkp⟩; have n0_ := Aside0.mk (Kd.R_mono (ok' := fun k_ => True) ho0 (fun k_ hk_ => trivial)); have n1_ := Aside0.mk (hb); clear HB; clear HO_5; have HO147 := n0_; have HB := n1_; clear n0_ n1_; (try clear hb); (try clear hkp); (try clear ho0))))
        go_ret
        exact ⟨_, by first | rfl | (simp [errW_none, errW_some] <;> rfl) | (simp [*, errW_none, errW_some] <;> rfl), by (with_reducible repeat (first | apply Kd.R_alloc | apply Kd.R_drewN | apply Kd.R_drew)); exact HO147.out, by repeat (first | (with_reducible first | exact HB.out | apply below_alloc | apply pw_below_drewN | apply below_drew1) | exact HB.out)⟩
def clepsydraref03_bit.f (l0 : List Int) (a1 : Int) : Option (Int) := (clepsydraref03_at.f l0 (wrap64 (Int.tdiv a1 16))).bind fun t148 => (if 0 ≤ (IntKind.u64.wrap (Int.tmod a1 16)) then (some (Go.bits .and .i64 (shr .i64 t148 (IntKind.u64.wrap (Int.tmod a1 16))) 1)) else (none))
set_option maxHeartbeats 8000000 in
set_option maxRecDepth 100000 in
theorem clepsydraref03_bit.calls (A0 : Option Addr) (c0 : Nat) (l0 : List Int) (a1 : Int) (r : Int) (w : World) (hr0 : Kd.C (Kd.int .i64) w A0 l0.length l0) (hc0 : l0.length ≤ c0) (h : clepsydraref03_bit.f l0 a1 = some r) :
    Calls Try.prog 56 #[.slice A0 l0.length c0, .int .i64 a1] w fun e w' => e = .returned (.int .i64 r) ∧ Drawn0 w w' := by
  have HR0 := Aside0.mk hr0
  have HC0 := Aside0.mk hc0
  clear hr0 hc0
  have H : ((clepsydraref03_at.f l0 (wrap64 (Int.tdiv a1 16))).bind fun t148 => (if 0 ≤ (IntKind.u64.wrap (Int.tmod a1 16)) then (some (Go.bits .and .i64 (shr .i64 t148 (IntKind.u64.wrap (Int.tmod a1 16))) 1)) else (none))) = some r := h
  clear h
  replace H := Option.bind_eq_some_iff.mp H
  obtain ⟨t148, A30, H⟩ := H
  replace H : (if 0 ≤ (IntKind.u64.wrap (Int.tmod a1 16)) then (some (Go.bits .and .i64 (shr .i64 t148 (IntKind.u64.wrap (Int.tmod a1 16))) 1)) else (none)) = some r := H
  have A3 := Aside0.mk A30
  clear A30
  obtain ⟨ji4, hji4⟩ : ∃ j_ : Int, (IntKind.u64.wrap (Int.tmod a1 16)) = j_ := ⟨_, rfl⟩
  replace H : (if 0 ≤ (ji4) then (some (Go.bits .and .i64 (shr .i64 t148 (ji4)) 1)) else (none)) = some r := by first | (rw [hji4] at H; exact H) | (simp only [hji4] at H ⊢; exact H)
  (try rw [hji4] at A3)
  by_cases c5 : 0 ≤ (ji4)
  · rw [if_pos c5] at H
    have c5b0 := eq_true c5
    have c5b1 : decide (0 ≤ (ji4)) = true := decide_eq_true c5
    clear c5
    obtain ⟨ji6, hji6⟩ : ∃ j_ : Int, (shr .i64 t148 (ji4)) = j_ := ⟨_, rfl⟩
    replace H : (some (Go.bits .and .i64 (ji6) 1)) = some r := by first | (rw [hji6] at H; exact H) | (simp only [hji6] at H ⊢; exact H)
    (try rw [hji6] at A3)
    have hji6_ : (t148 / 2 ^ min (ji4).toNat 64) = ji6 := hji6
    have hji6z : (ji4) ≤ 64 → (t148 / 2 ^ (ji4).toNat) = ji6 := shr_small hji6
    obtain rfl := Option.some.inj H
    simp only [Option.some.injEq, Prod.mk.injEq] at H
    obtain ⟨rfl⟩ := H
    go_enter Try.func56, Try.ntmps56
    go_wp2_with (first | ((with_reducible refine gate_callee (f := 72) rfl ?_); refine goesL_ (some 8) rfl rfl Try.func72 (by kernel_rfl) rfl #[.slice A0 l0.length c0, .int .i64 (wrap64 (Int.tdiv a1 16))] rfl (by (try simp only [List.map_toArray, List.map_cons, List.map_nil]); first | done | rfl | (simp only [List.length_drop, List.length_take]; rfl)) ?_; (with_reducible refine (clepsydraref03_at.calls _ _ l0 (wrap64 (Int.tdiv a1 16)) t148 _ ?side1 ?side2 A3.out).mono ?_); (case side1 => repeat (first | exact HR0.out | (with_reducible refine Kd.C_alloc ?_ _) | (with_reducible refine Kd.C_drewN ?_ _) | (with_reducible refine Kd.C_drew ?_))); (case side2 => exact HC0.out); rintro e w' ⟨rfl, ⟨nd, rfl⟩⟩; refine ⟨_, rfl, ?_⟩))
    go_ret
    exact ⟨by first | rfl | (simp; done) | (simp only [← hji4, ← hji6] <;> (first | rfl | simp)) | (simp [*]; done), by repeat (first | exact Drawn0.refl _ | apply Drawn0.step)⟩
  · rw [if_neg c5] at H
    exact absurd H (by simp)
def clepsydraref03_noughts.l0 : Nat → Int → List Int → Int → Option (List Int)
  | 0, _, _, _ => none
  | k + 1, x0, x3, x4 => if x4 < x0 then (if x3.length < 17592186044416 then (clepsydraref03_noughts.l0 k x0 (x3 ++ [0]) (wrap64 (x4 + 1))) else (none)) else (some x3)
def clepsydraref03_noughts.f (k : Nat) (a0 : Int) : Option (List Int) := clepsydraref03_noughts.l0 k a0 ([] : List Int) 0
set_option maxHeartbeats 8000000 in
set_option maxRecDepth 100000 in
theorem clepsydraref03_noughts.calls (k : Nat) (a0 : Int) (r : List Int) (w : World) (h : clepsydraref03_noughts.f k a0 = some r) :
    Calls Try.prog 64 #[.int .i64 a0] w fun e w' => ∃ v0_ : Value, e = .returned (v0_) ∧ Kd.R (Kd.int .i64) 3 w' w.heap.size (fun _ => True) v0_ r ∧ Below w.heap.size w w' := by
  have HB := Aside0.mk (Below.refl w.heap.size w)
  have H : (clepsydraref03_noughts.l0 k a0 ([] : List Int) 0) = some r := h
  clear h
  have H' := Aside0.mk H
  clear H
  go_enter Try.func64, Try.ntmps64
  go_wp2
  go_loopg [3, 4] k (fun kq v3 v4 w' => ∃ (x3_1 : List Int) (x4_1 : Int), v4 = .int .i64 x4_1 ∧ Aside0 (clepsydraref03_noughts.l0 kq a0 x3_1 x4_1 = some r) ∧ Aside0 (kq ≤ k) ∧ Aside0 (Kd.R (Kd.int .i64) 3 w' w.heap.size (fun _ => True) v3 x3_1) ∧ Aside0 (Below w.heap.size w w'))
  case atStart => exact ⟨(([] : List Int)), (0), (by first | rfl | (simp; done) | (simp [*]; done)), H', ⟨Nat.le_refl _⟩, ⟨by first | exact Kd.R_nil _ _ _ _ _ | exact Kd.N_nil _ _ _ _ _ | exact Kd.V_nil _ _ _ _ _ | exact Kd.Q_nil _ _ _ _ _ | exact Kd.S_nil _ _ _ _ _⟩, ⟨by repeat (first | (with_reducible first | exact HB.out | apply below_alloc | apply pw_below_drewN | apply below_drew1) | exact HB.out)⟩⟩
  case round =>
    clear H'
    obtain ⟨x3_1, x4_1, rfl, HA, HK1, HO_3, HB⟩ := hrel
    cases gk with
    | zero => exact absurd HA.out (by simp [clepsydraref03_noughts.l0])
    | succ k1 =>
      have H := HA.out
      clear HA
      simp only [clepsydraref03_noughts.l0] at H
      by_cases c2 : x4_1 < a0
      · rw [if_pos c2] at H
        have c2b0 : decide (x4_1 < a0) = true := decide_eq_true c2
        clear c2
        by_cases c3 : x3_1.length < 17592186044416
        · rw [if_pos c3] at H
          have LMc3 := Aside0.mk c3
          clear c3
          obtain ⟨y149, hy149⟩ : ∃ y_ : List Int, y_ = (x3_1 ++ [0]) := ⟨_, rfl⟩
          replace H : (clepsydraref03_noughts.l0 k1 a0 y149 (wrap64 (x4_1 + 1))) = some r := by first | (rw [hy149]; with_reducible exact H) | (have H2_ := (Option.bind_some _ _).symm.trans H; rw [hy149]; with_reducible exact H2_) | (have H2_ := (Option.bind_some _ _).symm.trans H; with_reducible exact H2_) | with_reducible exact H | (rw [hy149]; exact H) | exact H
          have Ny149 := Aside0.mk hy149
          clear hy149
          have H' := Aside0.mk H
          clear H
          go_wp2_with (first | ((with_reducible refine gate_builtin (b := .append) (xs := #[.tmp 10, .tmp 11]) rfl ?_); at_builtin; refine Kd.R_append (Kd.int .i64) (w0 := w) w.heap.size rfl (.tmp 10) (.tmp 11) 44 3 (.int .i64 0) 8 rfl Try.underlying44 info3 rfl (by decide) (by omega) u3 x3_1 0 [.int .i64 0] (fun _ => True) (fun _ => False) rfl rfl ?aP (fun _ hk => hk.elim) ?aF ?aO ?aB ?aS ?aL ?_; (case aP => exact rfl); (case aB => exact (by repeat (first | (with_reducible first | exact HB.out | apply below_alloc | apply pw_below_drewN | apply below_drew1) | exact HB.out))); (case aF => exact (fun _ _ => trivial)); (case aO => exact (by (with_reducible repeat (first | apply Kd.R_alloc | apply Kd.R_drewN | apply Kd.R_drew)); exact HO_3.out)); (case aS => exact (below_size (by repeat (first | (with_reducible first | exact HB.out | apply below_alloc | apply pw_below_drewN | apply below_drew1) | exact HB.out)))); (case aL => have := LMc3.out; omega); intro v150 w4 ho hb hg hat; rw [← Ny149.out] at ho; have n0_ := Aside0.mk (hb); have n1_ := Aside0.mk (ho); clear HB; clear HO_3; have HB := n0_; have HO151 := n1_; clear n0_ n1_; clear ho hb hg hat))
          go_roundg k1
          case measure => have := HK1.out; omega
          case rel => exact ⟨(y149), (wrap64 (x4_1 + 1)), (by first | rfl | (simp; done) | (simp [*]; done)), H', ⟨by have := HK1.out; omega⟩, ⟨by (with_reducible repeat (first | apply Kd.R_alloc | apply Kd.R_drewN | apply Kd.R_drew)); exact HO151.out⟩, ⟨by repeat (first | (with_reducible first | exact HB.out | apply below_alloc | apply pw_below_drewN | apply below_drew1) | exact HB.out)⟩⟩
        · rw [if_neg c3] at H
          exact absurd H (by simp)
      · rw [if_neg c2] at H
        have c2b0 : decide (x4_1 < a0) = false := decide_eq_false c2
        clear c2
        obtain rfl := Option.some.inj H
        simp only [Option.some.injEq, Prod.mk.injEq] at H
        obtain ⟨rfl⟩ := H
        go_wp2
        go_ret
        exact ⟨_, by first | rfl | (simp [errW_none, errW_some] <;> rfl) | (simp [*, errW_none, errW_some] <;> rfl), by (with_reducible repeat (first | apply Kd.R_alloc | apply Kd.R_drewN | apply Kd.R_drew)); exact HO_3.out, by repeat (first | (with_reducible first | exact HB.out | apply below_alloc | apply pw_below_drewN | apply below_drew1) | exact HB.out)⟩
end Go.Proofs.Yteelppebdcgbpaa.Cq
namespace Go.Proofs.Yteelppebdcgbpaa.Cq
open Go.RowKit Go.Proofs.YteelppebdcgbpaaW.PrintWords Go.Proofs.YteelppebdcgbpaaW.PrintLast Go.Proofs.YteelppebdcgbpaaW.PrintMore
attribute [local go_sem] max2_int min2_int max_two min_two max_three min_three max_four min_four   -- for this text's walks alone
set_option linter.unusedVariables false
set_option linter.unusedSimpArgs false
end Go.Proofs.Yteelppebdcgbpaa.Cq
namespace Go.Proofs.Yteelppebdcgbpaa
set_option linter.unusedSimpArgs false
set_option linter.unusedVariables false
open Go.RowKit Go.Proofs.YteelppebdcgbpaaW.PrintWords Go.Proofs.YteelppebdcgbpaaW.PrintLast Go.Proofs.YteelppebdcgbpaaW.PrintMore
theorem noughts_l0 {n : Nat} (hn : n < 17592186044416) : ∀ (d i k : Nat), i + d = n → d < k → Cq.clepsydraref03_noughts.l0 k (n : Int) (List.replicate i 0) (i : Int) = some (List.replicate n 0) := by
  intro d
  induction d with
  | zero =>
    intro i k hi hk
    obtain ⟨k, rfl⟩ : ∃ q, k = q + 1 := ⟨k - 1, by omega⟩
    simp only [Cq.clepsydraref03_noughts.l0]
    rw [if_neg (by omega), show i = n by omega]
  | succ d ih =>
    intro i k hi hk
    obtain ⟨k, rfl⟩ : ∃ q, k = q + 1 := ⟨k - 1, by omega⟩
    simp only [Cq.clepsydraref03_noughts.l0]
    have hw : wrap64 ((i : Int) + 1) = ((i + 1 : Nat) : Int) := by rw [wr (by omega) (by omega)]; omega
    rw [if_pos (by omega), if_pos (by rw [List.length_replicate]; omega), hw, ← List.replicate_succ']
    exact ih (i + 1) k (by omega) (by omega)
theorem toN_replicate (n : Nat) : toN (List.replicate n 0) = List.replicate n 0 := by simp [toN]
theorem noughts_any (w : World) (z : Int) (n : Nat) (hz : z = (n : Int)) (hn : n < 17592186044416) :
    Calls Try.prog 64 #[.int .i64 z] w fun e w' => ∃ A c, e = .returned (.slice A n c) ∧ Own .i64 3 w' w.heap.size A n c (List.replicate n 0) ∧ Below w.heap.size w w' := by
  subst hz
  refine (Cq.clepsydraref03_noughts.calls (n + 1) (n : Int) (List.replicate n 0) w (noughts_l0 hn n 0 (n + 1) (by omega) (by omega))).mono ?_
  rintro e w' ⟨v, rfl, hR, hb⟩
  obtain ⟨A, c, rfl, ho⟩ := Own.of_R hR (fun x hx => by rw [List.eq_of_mem_replicate hx]; omega)
  rw [toN_replicate, List.length_replicate] at ho
  exact ⟨A, c, by rw [List.length_replicate], ho, hb⟩
theorem D.nv_drop_div {xs : List Nat} (h : D.D16 xs) (k : Nat) : D.nv xs / 65536 ^ k = D.nv (xs.drop k) := by
  induction k generalizing xs with
  | zero => simp
  | succ k ih =>
    rcases xs with _ | ⟨x, xs⟩
    · simp [D.nv]
    · have hx := h.head
      rw [List.drop_succ_cons, ← ih h.tail, Nat.pow_succ, Nat.mul_comm, ← Nat.div_div_eq_div_mul]
      congr 1
      simp only [D.nv]; omega
theorem D.nv_drop_any (xs : List Nat) (k : Nat) : D.nv (xs.drop k) = gd xs k + 65536 * D.nv (xs.drop (k + 1)) := by
  rcases Nat.lt_or_ge k xs.length with h | h
  · rw [List.drop_eq_getElem_cons h, gd_lt h]; rfl
  · rw [List.drop_eq_nil_of_le h, List.drop_eq_nil_of_le (by omega), gd_ge h]; rfl
theorem D.wpow (k : Nat) : 65536 ^ k = 2 ^ (16 * k) := by rw [show (65536 : Nat) = 2 ^ 16 from rfl, ← Nat.pow_mul]
theorem D.digit_bit (xs : List Nat) (h : D.D16 xs) (i : Nat) : gd xs (i / 16) / 2 ^ (i % 16) % 2 = D.nv xs / 2 ^ i % 2 := by
  have e1 : D.nv xs / 2 ^ (16 * (i / 16)) = D.nv (xs.drop (i / 16)) := by rw [← D.wpow, D.nv_drop_div h]
  have e2 : D.nv xs / 2 ^ i = D.nv (xs.drop (i / 16)) / 2 ^ (i % 16) := by
    rw [← e1, Nat.div_div_eq_div_mul, ← Nat.pow_add, show 16 * (i / 16) + i % 16 = i by omega]
  rw [e2, D.nv_drop_any]
  have hr : i % 16 < 16 := Nat.mod_lt _ (by omega)
  generalize i % 16 = r at *
  generalize D.nv (xs.drop (i / 16 + 1)) = Y
  generalize gd xs (i / 16) = x
  have e3 : 65536 * Y = 2 ^ r * (2 * (2 ^ (15 - r) * Y)) := by
    rw [← Nat.mul_assoc, ← Nat.mul_assoc, show 2 ^ r * 2 * 2 ^ (15 - r) = 65536 by rw [← Nat.pow_succ, ← Nat.pow_add, show r.succ + (15 - r) = 16 by omega]]
  rw [e3, Nat.add_mul_div_left _ _ (Nat.pow_pos (by omega))]; omega
theorem u64w3 {x : Nat} (h : x < 18446744073709551616) : IntKind.u64.wrap (x : Int) = (x : Int) := by
  have : IntKind.u64.wrap (x : Int) = (x : Int) % 18446744073709551616 := rfl
  rw [this]; omega
theorem and1_i64 {v : Nat} (h : v < 9223372036854775808) : Go.bits .and .i64 (v : Int) 1 = ((v % 2 : Nat) : Int) := by
  have := (bits_nat .i64 63 (by decide) wraps_i64 v 1 (by omega) (by decide)).1
  rw [show ((1 : Nat) : Int) = 1 from rfl] at this
  rw [this, show (1 : Nat) = 2 ^ 1 - 1 from rfl, Nat.and_two_pow_sub_one_eq_mod]
theorem shr_i64 {v j : Nat} (hj : j < 64) : shr .i64 (v : Int) (j : Int) = ((v / 2 ^ j : Nat) : Int) := by
  unfold shr
  rw [Int.toNat_natCast, show min j IntKind.i64.bits = j from Nat.min_eq_left (by have : IntKind.i64.bits = 64 := rfl; omega)]
  push_cast; rfl
theorem at_pure3 {xs : List Nat} (i : Nat) (hi : i ≤ 4611686018427387904) : Cq.clepsydraref03_at.f (cI xs) (i : Int) = some ((gd xs i : Nat) : Int) := by
  unfold Cq.clepsydraref03_at.f
  rw [cI_length]
  by_cases h : i < xs.length
  · rw [if_neg (by omega), if_pos (by omega), if_pos (by omega)]
    congr 1
    unfold rd
    rw [Int.toNat_natCast]
    unfold cI
    rw [List.getD_eq_getElem?_getD, List.getElem?_map, gd_get h]; rfl
  · rw [if_pos (by omega), gd_ge (by omega)]; rfl
theorem bit_pure3 {xs : List Nat} (h : D.D16 xs) (i : Nat) (hi : i ≤ 4611686018427387904) : Cq.clepsydraref03_bit.f (cI xs) (i : Int) = some ((D.nv xs / 2 ^ i % 2 : Nat) : Int) := by
  unfold Cq.clepsydraref03_bit.f
  have hr : i % 16 < 16 := Nat.mod_lt _ (by omega)
  have e : Int.tdiv (i : Int) 16 = ((i / 16 : Nat) : Int) := by rw [Int.tdiv_eq_ediv_of_nonneg (by omega)]; omega
  have e2 : Int.tmod (i : Int) 16 = ((i % 16 : Nat) : Int) := by rw [Int.tmod_eq_emod_of_nonneg (by omega)]; omega
  have e3 : IntKind.u64.wrap ((i % 16 : Nat) : Int) = ((i % 16 : Nat) : Int) := u64w3 (by omega)
  have hg := h.gd (i / 16)
  rw [e, e2, e3, wr (by omega) (by omega), at_pure3 _ (by omega), Option.bind_some, if_pos (by omega), shr_i64 (by omega), and1_i64 (Nat.lt_of_le_of_lt (Nat.div_le_self _ _) (by omega)), D.digit_bit xs h]
theorem bit3_any (w : World) {A : Option Addr} {n c : Nat} {xs : List Nat} (h : Rd .i64 w A n c xs) (hd : D.D16 xs) (i : Nat) (hi : i ≤ 4611686018427387904) :
    Calls Try.prog 56 #[.slice A n c, .int .i64 i] w fun e w' => e = .returned (.int .i64 ((D.nv xs / 2 ^ i % 2 : Nat) : Int)) ∧ Drawn0 w w' := by
  have hl := h.len
  have hc := h.cap
  have := Cq.clepsydraref03_bit.calls A c (cI xs) (i : Int) _ w (C_of_Rd h) (by rw [cI_length, hl]; exact hc) (bit_pure3 hd i hi)
  rwa [cI_length, hl] at this
set_option maxHeartbeats 400000 in
theorem cut3_any (w : World) {A : Option Addr} {n c : Nat} {xs : List Nat} (hx : Rd .i64 w A n c xs) (hd : D.D16 xs) (hn : n ≤ 1073741824) :
    Calls Try.prog 63 #[.slice A n c] w fun e w' => e = .returned (.slice A (D.ln (D.nv xs)) c) ∧ w' = w := by
  have hmax := hx.max
  have hcap := hx.cap
  have HX := Lib.hid hx
  have HD := Lib.hid hd
  clear hx hd
  go_enter Try.func63, Try.ntmps63
  go_wp2
  go_loop [3] (fun i => ∃ k : Nat, k ≤ n ∧ D.nv (xs.take k) = D.nv xs ∧ i = .int .i64 (k : Int)) (fun i => (intOf i).toNat)
  case atStart => exact ⟨n, Nat.le_refl _, by rw [List.take_of_length_le (by rw [HX.out.len]; exact Nat.le_refl _)], rfl⟩
  case round =>
    obtain ⟨k, hk, hv, rfl⟩ := hrel
    have HV := Lib.hid hv
    clear hv
    by_cases hk0 : k = 0
    · subst hk0
      have HL := Lib.hid (show D.ln (D.nv xs) = 0 by rw [← HV.out]; exact D.ln_zero)
      go_wp2_with fail
      go_ret
      exact ⟨by rw [HL.out]; rfl, rfl⟩
    · obtain ⟨k, rfl⟩ : ∃ j, k = j + 1 := ⟨k - 1, by omega⟩
      obtain ⟨ad, rfl, hb, hc⟩ := HX.out.form (by omega)
      have hxc := hc k (by omega)
      clear hc hk0
      by_cases h0 : gd xs k = 0
      · have HM := Lib.hid (show D.nv (xs.take k) = D.nv xs from D.trim_more h0 HV.out)
        rw [h0] at hxc
        clear h0
        go_wp2_with fail
        refine ⟨⟨k, by omega, HM.out, ?_⟩, ?_⟩
        · first | rfl | (congr 1; omega)
        · simp [intOf]
      · have h0' : (((gd xs k : Nat) : Int) == 0) = false := by simp; omega
        have HL := Lib.hid (show D.ln (D.nv xs) = k + 1 by
          unfold D.ln
          rw [D.trim_done HD.out (by rw [HX.out.len]; omega) h0 HV.out, List.length_take, HX.out.len]; omega)
        clear h0
        go_wp2_with fail
        go_ret
        exact ⟨by rw [HL.out]; rfl, rfl⟩
theorem D.take_ln {xs : List Nat} (hd : D.D16 xs) : xs.take (D.ln (D.nv xs)) = D.dgs (D.nv xs) := by
  have key : ∀ k, k ≤ xs.length → D.nv (xs.take k) = D.nv xs → D.dgs (D.nv xs) = xs.take (D.ln (D.nv xs)) := by
    intro k
    induction k with
    | zero => intro _ h; rw [← h]; simp [D.nv, D.dgs_zero, D.ln]
    | succ k ih =>
      intro hk h
      by_cases h0 : gd xs k = 0
      · exact ih (by omega) (D.trim_more h0 h)
      · have h1 := D.trim_done hd (by omega) h0 h
        have h2 : D.ln (D.nv xs) = k + 1 := by unfold D.ln; rw [h1, List.length_take]; omega
        rw [h2, h1]
  exact (key xs.length (Nat.le_refl _) (by rw [List.take_of_length_le (Nat.le_refl _)])).symm
theorem D.ln_le_len {xs : List Nat} (hd : D.D16 xs) : D.ln (D.nv xs) ≤ xs.length := D.ln_nv hd
end Go.Proofs.Yteelppebdcgbpaa
namespace Go.Proofs.Yteelppebdcgbpaa
set_option linter.unusedSimpArgs false
set_option linter.unusedVariables false
open Go.RowKit Go.Proofs.YteelppebdcgbpaaW.PrintWords
def RetDD (q r : Nat) (w : World) (e : Ending) (w' : World) : Prop := ∃ A c A' c', e = .returned (.tuple #[.slice A (D.ln q) c, .slice A' (D.ln r) c']) ∧ Own .i64 3 w' w.heap.size A (D.ln q) c (D.dgs q) ∧ Own .i64 3 w' w.heap.size A' (D.ln r) c' (D.dgs r) ∧ Below w.heap.size w w' ∧ Apart A A'
structure PW (w wr : World) (n c1 gr g2 K c2 : Nat) (A1 : Option Addr) (qs xs : List Nat) (a N k : Nat) : Prop where
  bel : Below w.heap.size w wr
  q : Own .i64 3 wr w.heap.size A1 n c1 qs
  row : RowW wr w.heap.size gr g2 K c2 xs
  q16 : D.D16 qs
  qv : D.nv qs = a / 2 ^ k / N * 2 ^ k
  rv : D.nv xs = a / 2 ^ k % N
theorem below_grown {B : Nat} {w wr w' : World} {g : Nat} (h : Below B w wr) (hg : wr.grownBy w' (some g)) (hB : B ≤ g) (hb : B ≤ wr.heap.size) : Below B w w' := h.grown hg hb (fun g' e => by simp only [Option.some.injEq] at e; omega)
theorem Rd.at_below {w : World} {B : Option Addr} {m d : Nat} {ns : List Nat} (h : Rd .i64 w B m d ns) (hm : 0 < m) : ∀ ad, B = some ad → ad.block < w.heap.size := by
  intro ad e
  obtain ⟨ad', e', hlt, _⟩ := h.form hm
  rw [e'] at e; cases e; exact hlt
theorem two_next (a j : Nat) : a / 2 ^ j = 2 * (a / 2 ^ (j + 1)) + a / 2 ^ j % 2 := by
  have e : a / 2 ^ (j + 1) = a / 2 ^ j / 2 := by rw [Nat.div_div_eq_div_mul, ← Nat.pow_succ]
  rw [e]; omega
theorem div_step {a N j b : Nat} (hN : 0 < N) (hb : a / 2 ^ j % 2 = b) :
    (2 * (a / 2 ^ (j + 1) % N) + b < N → a / 2 ^ j / N = 2 * (a / 2 ^ (j + 1) / N) ∧ a / 2 ^ j % N = 2 * (a / 2 ^ (j + 1) % N) + b) ∧
    (N ≤ 2 * (a / 2 ^ (j + 1) % N) + b → a / 2 ^ j / N = 2 * (a / 2 ^ (j + 1) / N) + 1 ∧ a / 2 ^ j % N = 2 * (a / 2 ^ (j + 1) % N) + b - N) := by
  have h := two_next a j
  rw [hb] at h
  generalize a / 2 ^ j = x at *
  generalize a / 2 ^ (j + 1) = y at *
  have hd := Nat.div_add_mod y N
  have hm := Nat.mod_lt y hN
  generalize y / N = q at *
  generalize y % N = r at *
  have hb1 : b ≤ 1 := by omega
  subst hd h
  refine ⟨fun h => ?_, fun h => ?_⟩
  · have e : 2 * (N * q + r) + b = (2 * r + b) + N * (2 * q) := by rw [Nat.mul_add, Nat.mul_left_comm]; omega
    rw [e, Nat.add_mul_div_left _ _ hN, Nat.add_mul_mod_self_left, Nat.div_eq_of_lt h, Nat.mod_eq_of_lt h]; omega
  · have e : 2 * (N * q + r) + b = (2 * r + b - N) + N * (2 * q + 1) := by rw [Nat.mul_add, Nat.mul_add, Nat.mul_left_comm]; omega
    rw [e, Nat.add_mul_div_left _ _ hN, Nat.add_mul_mod_self_left, Nat.div_eq_of_lt (by omega), Nat.mod_eq_of_lt (by omega)]; omega
theorem bit_set {qs : List Nat} (h : D.D16 qs) {j v : Nat} (hv : D.nv qs = v * 2 ^ (j + 1)) (hl : j / 16 < qs.length) :
    gd qs (j / 16) + 2 ^ (j % 16) < 65536 ∧ D.nv (qs.set (j / 16) (gd qs (j / 16) + 2 ^ (j % 16))) = (2 * v + 1) * 2 ^ j := by
  have hr : j % 16 < 16 := Nat.mod_lt _ (by omega)
  have hg := h.gd (j / 16)
  have e0 : 2 ^ j = 65536 ^ (j / 16) * 2 ^ (j % 16) := by rw [D.wpow, ← Nat.pow_add, show 16 * (j / 16) + j % 16 = j by omega]
  refine ⟨?_, ?_⟩
  · have e1 : D.nv (qs.drop (j / 16)) = 2 ^ (j % 16 + 1) * v := by
      rw [← D.nv_drop_div h, hv, Nat.pow_succ, Nat.pow_succ, e0, Nat.mul_comm v, Nat.mul_assoc, Nat.mul_assoc, Nat.mul_div_cancel_left _ (Nat.pow_pos (by omega)), ← Nat.mul_assoc]
    rw [D.nv_drop_any] at e1
    have e2 : (65536 : Nat) = 2 ^ (j % 16 + 1) * 2 ^ (15 - j % 16) := by rw [← Nat.pow_add, show j % 16 + 1 + (15 - j % 16) = 16 by omega]
    generalize gd qs (j / 16) = d at *
    have e3 : d % 2 ^ (j % 16 + 1) = 0 := by
      have : (d + 65536 * D.nv (qs.drop (j / 16 + 1))) % 2 ^ (j % 16 + 1) = 0 := by rw [e1]; exact Nat.mul_mod_right _ _
      rw [e2, Nat.mul_assoc, Nat.add_mul_mod_self_left] at this
      exact this
    obtain ⟨u, hu⟩ := Nat.dvd_of_mod_eq_zero e3
    have hu2 : u < 2 ^ (15 - j % 16) := by
      rw [hu, e2] at hg
      exact Nat.lt_of_mul_lt_mul_left hg
    have h4 : 2 ^ (j % 16 + 1) * (u + 1) ≤ 65536 := by rw [e2]; exact Nat.mul_le_mul_left _ hu2
    rw [Nat.mul_add, Nat.pow_succ] at h4
    rw [hu, Nat.pow_succ]
    have := Nat.pow_pos (n := j % 16) (show 0 < 2 by omega)
    omega
  · have h1 := D.nv_set (zs := qs) (j := j / 16) (gd qs (j / 16) + 2 ^ (j % 16)) hl
    rw [Nat.mul_add, ← e0, hv, Nat.pow_succ] at h1
    have e5 : (2 * v + 1) * 2 ^ j = v * (2 ^ j * 2) + 2 ^ j := by rw [Nat.add_mul, Nat.mul_comm 2 v, Nat.mul_assoc, Nat.mul_comm 2]; omega
    rw [e5]; omega
theorem Own.takeA {k : IntKind} {e : TypeId} {w : World} {base n c m : Nat} {A : Option Addr} {xs : List Nat} (h : Own k e w base A n c xs) (hm : m ≤ n) : Own k e w base A m c (xs.take m) := by
  rcases h.ways with ⟨rfl, rfl, rfl, rfl⟩ | ⟨g, rfl, _⟩
  · obtain rfl : m = 0 := by omega
    simpa using h
  · exact h.take hm
theorem Own.far {k : IntKind} {e : TypeId} {w : World} {base g n c : Nat} {xs : List Nat} (h : Own k e w base (some ⟨g, 0, none⟩) n c xs) {p : Addr} (hp : p.block ≠ g) (u : Value) : Own k e (w.setCell p u) base (some ⟨g, 0, none⟩) n c xs := by
  refine ⟨h.1, ?_⟩
  rcases h.2 with hn | ⟨g', cap, cur, h1, hg, hh, rest⟩
  · exact .inl hn
  · refine .inr ⟨g', cap, cur, h1, hg, (Below.heap_setCell w p u g' ?_).trans hh, rest⟩
    simp only [Value.slice.injEq, Option.some.injEq, Addr.mk.injEq, and_true, true_and] at h1
    intro e; exact hp (by rw [h1.1, e])
theorem set_val {d v : Nat} (h : d + 2 ^ v < 65536) : wrap64 ((d : Int) + wrap64 ((2 : Int) ^ v)) = ((d + 2 ^ v : Nat) : Int) := by
  obtain ⟨p, hp⟩ : ∃ p : Nat, 2 ^ v = p := ⟨_, rfl⟩
  rw [hp] at h
  rw [show (2 : Int) ^ v = (p : Int) by rw [← hp]; push_cast; rfl, hp]
  unfold wrap64; omega
theorem bit3_q {w : World} {A : Option Addr} {n c i b : Nat} {xs : List Nat} (h : Rd .i64 w A n c xs) (hd : D.D16 xs) (hi : i ≤ 4611686018427387904) (hb : D.nv xs / 2 ^ i % 2 = b) :
    Calls Try.prog 56 #[.slice A n c, .int .i64 i] w fun e w' => e = .returned (.int .i64 ((b : Nat) : Int)) ∧ Drawn0 w w' := by
  subst hb; exact bit3_any w h hd i hi
theorem cut3_q {w : World} {A : Option Addr} {n c v : Nat} {xs : List Nat} (h : Rd .i64 w A n c xs) (hd : D.D16 xs) (hn : n ≤ 1073741824) (hv : D.nv xs = v) (j : Nat) :
    Calls Try.prog 63 #[.slice A n c] (w.drewN j) fun e w' => e = .returned (.slice A (D.ln v) c) ∧ w' = w.drewN j := by
  subst hv; exact cut3_any _ (h.drewN j) hd hn
theorem row_start {w : World} {base g K c : Nat} (t : TypeId) (h : Own .i64 3 w base (some ⟨g, 0, none⟩) K c (List.replicate K 0)) (hg : g < w.heap.size) : RowW (w.alloc (.cells #[.slice (some ⟨g, 0, none⟩) K c] t)) base w.heap.size g K c (List.replicate K 0) :=
  ⟨((Bk.new _ _ _).cell 0).trans rfl, h.below ((Below.refl _ _).alloc (Nat.le_refl _) _), D.D16.replicate K, by omega, by simp⟩
set_option maxHeartbeats 4000000 in
set_option maxRecDepth 100000 in
theorem parted_any (w : World) {A B : Option Addr} {n c m d : Nat} {us ns : List Nat} (ha : Rd .i64 w A n c us) (da : D.D16 us) (hn : Rd .i64 w B m d ns) (dn : D.D16 ns) (h0 : 0 < D.nv ns) (hnn : n ≤ 65536) (hmm : m ≤ 65536) :
    Calls Try.prog 37 #[.slice A n c, .slice B m d] w (RetDD (D.nv us / D.nv ns) (D.nv us % D.nv ns) w) := by
  have hmpos : 0 < m := by
    rcases Nat.eq_zero_or_pos m with h | h
    · have := hn.len; rw [h] at this; rw [List.eq_nil_of_length_eq_zero this] at h0; simp [D.nv] at h0
    · exact h
  have HA := Lib.hid ha
  have HN := Lib.hid hn
  have DA := Lib.hid da
  have DN := Lib.hid dn
  have HBL := Lib.hid (hn.at_below hmpos)
  have H0 := Lib.hid h0
  have HLN := Lib.hid (show D.nv ns < 65536 ^ m by have := D.nv_lt dn; rwa [hn.len] at this)
  have HLA := Lib.hid (show D.nv us < 2 ^ (16 * n) by have := D.nv_lt da; rwa [ha.len, D.wpow] at this)
  clear ha hn da dn h0
  go_enter Try.func37, Try.ntmps37
  go_wp2_with fail
  refine (noughts_any w (n : Int) n rfl (by omega)).mono ?_
  rintro e w1 ⟨A1, c1, rfl, ho1, hb1⟩
  have HO1 := Lib.hid ho1
  have HB1 := Lib.hid hb1
  have hW1 := hb1.size
  clear ho1 hb1
  go_wp2_with fail
  refine (noughts_any w1 ((m : Int) + 1) (m + 1) (by omega) (by omega)).mono ?_
  rintro e w2 ⟨A2, c2, rfl, ho2, hb2⟩
  obtain ⟨g2, rfl, hg21, hg22⟩ := ho2.blk (by omega)
  have HO2 := Lib.hid ho2
  have HB2 := Lib.hid hb2
  have hW2 := hb2.size
  clear ho2 hb2
  have HPW := Lib.hid (show PW w (w2.alloc (.cells #[.slice (some ⟨g2, 0, none⟩) (m + 1) c2] 74)) n c1 w2.heap.size g2 (m + 1) c2 A1 (List.replicate n 0) (List.replicate (m + 1) 0) (D.nv us) (D.nv ns) (16 * n) from by
    refine ⟨(HB1.out.trans (HB2.out.mono hW1)).trans (((Below.refl w2.heap.size w2).alloc (Nat.le_refl _) _).mono (by omega)), (HO1.out.below HB2.out).below ((Below.refl _ _).alloc (Nat.le_refl _) _), (row_start _ (HO2.out.lower (by omega)) hg22), D.D16.replicate n, ?_, ?_⟩
    · rw [Nat.div_eq_of_lt HLA.out, D.nv_replicate]; simp
    · rw [Nat.div_eq_of_lt HLA.out, D.nv_replicate]; simp)
  go_wp2_with fail
  go_loopw [8] (fun i wr => ∃ (k : Nat) (qs xs : List Nat), k ≤ 16 * n ∧ i = .int .i64 ((k : Int) - 1) ∧ PW w wr n c1 w2.heap.size g2 (m + 1) c2 A1 qs xs (D.nv us) (D.nv ns) k) (fun i _ => (intOf i + 1).toNat)
  case atStart => exact ⟨16 * n, List.replicate n 0, List.replicate (m + 1) 0, Nat.le_refl _, ret_val (by omega), HPW.out⟩
  case round =>
    obtain ⟨k, qs, xs, hk, rfl, hp⟩ := hrel
    have HP := Lib.hid hp
    have hwr := hp.bel.size
    have hbx := hp.row.box
    clear hp
    by_cases hk0 : k = 0
    · subst hk0
      have hq := HP.out.qv
      have hr := HP.out.rv
      rw [Nat.pow_zero, Nat.div_one, Nat.mul_one] at hq
      rw [Nat.pow_zero, Nat.div_one] at hr
      have HC1 := Lib.hid (cut3_q HP.out.q.rd HP.out.q16 (by omega) hq)
      have HC2 := Lib.hid (cut3_q HP.out.row.own.rd HP.out.row.d16 (by omega) hr)
      have HQ := Lib.hid hq
      have HR := Lib.hid hr
      clear hq hr
      go_wp2_with fail
      go_quiet ((go_at_call 63; first | (with_reducible exact Calls.quiet_of_same (HC1.out _)) | (with_reducible exact Calls.quiet_of_same (HC2.out _))))
      go_wp2_with fail
      refine bodyPost_ret (v := .tuple #[.slice A1 (D.ln (D.nv us / D.nv ns)) c1, .slice (some ⟨g2, 0, none⟩) (D.ln (D.nv us % D.nv ns)) c2]) (by simp [results, Try.results37, go_sem]) rfl ⟨A1, c1, some ⟨g2, 0, none⟩, c2, rfl, ?_, ?_, ?_, ?_⟩
      · rw [← HQ.out, ← D.take_ln HP.out.q16]
        exact (HP.out.q.takeA (by have := D.ln_le_len HP.out.q16; rw [HP.out.q.len] at this; exact this)).drewN _
      · rw [← HR.out, ← D.take_ln HP.out.row.d16]
        exact (HP.out.row.own.takeA (by have := D.ln_le_len HP.out.row.d16; rw [HP.out.row.own.len] at this; exact this)).drewN _
      · exact below_drewN HP.out.bel _
      · exact Apart.of HO1.out HO2.out
    · obtain ⟨j, rfl⟩ : ∃ j, k = j + 1 := ⟨k - 1, by omega⟩
      have ek : ((j + 1 : Nat) : Int) - 1 = (j : Int) := by omega
      rw [ek]
      obtain ⟨b, hb⟩ : ∃ b, D.nv us / 2 ^ j % 2 = b := ⟨_, rfl⟩
      have hb1 : b ≤ 1 := by omega
      have HB := Lib.hid hb
      have HBIT := Lib.hid (bit3_q (HA.out.below (HP.out.bel)) DA.out (by omega) hb)
      obtain ⟨r, hr⟩ : ∃ r, D.nv us / 2 ^ (j + 1) % D.nv ns = r := ⟨_, rfl⟩
      have hrN : r < D.nv ns := by rw [← hr]; exact Nat.mod_lt _ H0.out
      have hxv : D.nv xs = r := by rw [← hr]; exact HP.out.rv
      have hst := div_step (a := D.nv us) (j := j) H0.out hb
      rw [hr] at hst
      have HST := Lib.hid hst
      have HXV := Lib.hid hxv
      have HFIT := Lib.hid (show 2 * D.nv xs + b < 65536 ^ (m + 1) by have := HLN.out; rw [hxv, Nat.pow_succ]; omega)
      have HRN := Lib.hid hrN
      clear hb hr hrN hxv hst ek hk0
      go_wp2_with fail
      refine HBIT.out.mono ?_
      rintro e w' ⟨rfl, hdr⟩
      obtain ⟨nd, rfl⟩ := hdr.out
      clear hdr
      go_wp2_with fail
      refine (double_any _ (HP.out.row.drewN nd) hb1 (by omega) HFIT.out).mono ?_
      rintro e w4 ⟨rfl, xs4, hrow4, hv4, hg4⟩
      have hbx4 := hrow4.box
      have HG4 := Lib.hid hg4
      have HROW4 := Lib.hid hrow4
      have HV4 := Lib.hid (hv4.trans (by rw [HXV.out]))
      have HB4 := Lib.hid (below_grown (below_drewN HP.out.bel nd) hg4 (by omega) (by simpa using hwr))
      clear hbx hrow4 hg4 hv4
      have hneB : ∀ ad, B = some ad → ad.block ≠ g2 := fun ad e => by have := HBL.out ad e; omega
      have HNEB := Lib.hid hneB
      have HN4 := Lib.hid ((HN.out.below (below_drewN HP.out.bel nd)).grown HG4.out hneB)
      have hneq : A1 ≠ some ⟨g2, 0, none⟩ := Apart.of HO1.out HO2.out |> fun h e => h g2 e rfl
      have HQ4 := Lib.hid ((HP.out.q.drewN nd).grown HG4.out hneq)
      have HNEQ := Lib.hid hneq
      clear hneB hneq
      have hw4 := HB4.out.size
      by_cases hlt : 2 * r + b < D.nv ns
      · obtain ⟨hs1, hs2⟩ := HST.out.1 hlt
        have HS1 := Lib.hid hs1
        have HS2 := Lib.hid hs2
        have HD := Lib.hid (drop_no w4 HROW4.out HN4.out DN.out (by omega) (by omega) (by rw [HV4.out]; exact hlt))
        clear hlt hs1 hs2
        go_wp2_with fail
        refine HD.out.mono ?_
        rintro e w5 ⟨rfl, xs5, hrow5, hv5, hg5⟩
        have HROW5 := Lib.hid hrow5
        have HV5 := Lib.hid hv5
        have HG5 := Lib.hid hg5
        clear hrow5 hv5 hg5 hbx4
        go_wp2_with fail
        refine ⟨⟨j, qs, xs5, by omega, rfl, ⟨below_grown HB4.out HG5.out (by omega) hw4, HQ4.out.grown HG5.out HNEQ.out, HROW5.out, HP.out.q16, ?_, ?_⟩⟩, by simp [intOf]⟩
        · rw [HP.out.qv, HS1.out, Nat.pow_succ, Nat.mul_comm 2, Nat.mul_assoc, Nat.mul_comm (2 ^ j)]
        · rw [HV5.out, HV4.out, HS2.out]
      · obtain ⟨hs1, hs2⟩ := HST.out.2 (by omega)
        have HS1 := Lib.hid hs1
        have HS2 := Lib.hid hs2
        have HD := Lib.hid (drop_yes w4 HROW4.out HN4.out DN.out HNEB.out (by omega) (by omega) (by rw [HV4.out]; omega))
        obtain ⟨gq, rfl, hgq1, hgq2⟩ := HO1.out.blk (by omega)
        have hgq3 : gq ≠ g2 := fun e => HNEQ.out (by rw [e])
        obtain ⟨u, hu⟩ : ∃ u, j / 16 = u := ⟨_, rfl⟩
        obtain ⟨v, hv⟩ : ∃ v, j % 16 = v := ⟨_, rfl⟩
        have hun : u < n := by omega
        have hv16 : v < 16 := by omega
        have hbs := bit_set (v := D.nv us / 2 ^ (j + 1) / D.nv ns) HP.out.q16 (j := j) HP.out.qv (by rw [HP.out.q.len]; omega)
        rw [hu, hv] at hbs
        have HBS := Lib.hid hbs
        clear hlt hs1 hs2 hbs
        go_wp2_with fail
        refine HD.out.mono ?_
        rintro e w5 ⟨rfl, xs5, hrow5, hv5, hg5⟩
        have HROW5 := Lib.hid hrow5
        have HV5 := Lib.hid hv5
        have HG5 := Lib.hid hg5
        have HQ5 := Lib.hid (HQ4.out.grown HG5.out HNEQ.out)
        have hcell := HQ5.out.cellAt hun
        have hfr := HQ5.out.frozenAt u
        have hcap := HQ5.out.rd.cap
        have hmax := HQ5.out.rd.max
        have e1 : (j : Int) / 16 = (u : Int) := by omega
        have e2 : (j : Int) % 16 = (v : Int) := by omega
        clear hrow5 hv5 hg5 hbx4 hu hv
        go_wp2_with fail
        obtain ⟨hb1, hb2⟩ := HBS.out
        have ev := set_val hb1
        rw [ev]
        refine ⟨⟨j, qs.set u (gd qs u + 2 ^ v), xs5, by omega, rfl, ⟨?_, HQ5.out.store u _, ?_, HP.out.q16.set hb1, ?_, ?_⟩⟩, by simp [intOf]⟩
        · exact (below_grown HB4.out HG5.out (by omega) hw4).setCell (p := ⟨gq, u, none⟩) (by simpa using hgq1) _
        · exact ⟨(cell_set_ne2 (by simp; omega) _).trans HROW5.out.box, HROW5.out.own.far (fun e => hgq3 (by simpa using e)) _, HROW5.out.d16, HROW5.out.ne, by have := HROW5.out.lt; simpa using this⟩
        · rw [hb2, HS1.out]
        · rw [HV5.out, HV4.out, HS2.out]
end Go.Proofs.Yteelppebdcgbpaa
namespace Go.Proofs.Yteelppebdcgbpaa
set_option linter.unusedSimpArgs false
set_option linter.unusedVariables false
open Go.RowKit Go.Proofs.YteelppebdcgbpaaW.PrintWords
def RetD (v : Nat) (w : World) (e : Ending) (w' : World) : Prop := ∃ A c, e = .returned (.slice A (D.ln v) c) ∧ Own .i64 3 w' w.heap.size A (D.ln v) c (D.dgs v) ∧ Below w.heap.size w w'
def RetDrop (w : World) (base gr g K c m : Nat) (e : Ending) (w' : World) : Prop := ∃ t : Bool, RetRow w base gr g K c m (.bool t) e w'
theorem drop_mod (w : World) {base gr g K c m d : Nat} {B : Option Addr} {xs ns : List Nat} (h : RowW w base gr g K c xs) (hn : Rd .i64 w B m d ns) (bn : D.D16 ns) (hne : ∀ ad, B = some ad → ad.block ≠ g) (hK : K ≤ 1048576) (hm : m ≤ K) (hlt : D.nv xs < 2 * D.nv ns) :
    Calls Try.prog 66 #[.pointer (some ⟨gr, 0, none⟩), .slice B m d] w (RetDrop w base gr g K c (D.nv xs % D.nv ns)) := by
  by_cases h1 : D.nv xs < D.nv ns
  · rw [Nat.mod_eq_of_lt h1]
    exact (drop_no w h hn bn hK (by omega) h1).mono fun _ _ h => ⟨false, h⟩
  · rw [Nat.mod_eq_sub_mod (by omega), Nat.mod_eq_of_lt (by omega)]
    exact (drop_yes w h hn bn hne hK hm (by omega)).mono fun _ _ h => ⟨true, h⟩
theorem times_step {a b N j bt r : Nat} (hb : b / 2 ^ j % 2 = bt) (hr : a * (b / 2 ^ (j + 1)) % N = r) :
    (bt = 0 → a * (b / 2 ^ j) % N = 2 * r % N) ∧ (bt = 1 → a * (b / 2 ^ j) % N = (2 * r % N + a) % N) := by
  have h := two_next b j
  rw [hb] at h
  generalize b / 2 ^ j = x at *
  generalize b / 2 ^ (j + 1) = y at *
  subst h hr
  have e : 2 * (a * y % N) % N = 2 * (a * y) % N := by rw [Nat.mul_mod, Nat.mod_mod, ← Nat.mul_mod]
  refine ⟨fun h => ?_, fun h => ?_⟩
  · subst h; rw [e, Nat.add_zero, Nat.mul_left_comm]
  · subst h; rw [e, Nat.mul_add, Nat.mul_one, Nat.mul_left_comm, Nat.add_mod (2 * (a * y) % N), Nat.mod_mod, ← Nat.add_mod]
structure TW (w wr : World) (gr g2 K c2 : Nat) (xs : List Nat) (a b N k : Nat) : Prop where
  bel : Below w.heap.size w wr
  row : RowW wr w.heap.size gr g2 K c2 xs
  rv : D.nv xs = a * (b / 2 ^ k) % N
set_option maxHeartbeats 4000000 in
set_option maxRecDepth 100000 in
theorem times_any (w : World) {A B C : Option Addr} {n c m d p f : Nat} {us ys ns : List Nat} (hu : Rd .i64 w A n c us) (du : D.D16 us) (hv : Rd .i64 w B m d ys) (dv : D.D16 ys) (hn : Rd .i64 w C p f ns) (dn : D.D16 ns) (hlt : D.nv us < D.nv ns) (hnn : n ≤ 65536) (hmm : m ≤ 65536) (hpp : p ≤ 65536) (hnp : n ≤ p + 1) :
    Calls Try.prog 39 #[.slice A n c, .slice B m d, .slice C p f] w (RetD (D.nv us * D.nv ys % D.nv ns) w) := by
  have hppos : 0 < p := by
    rcases Nat.eq_zero_or_pos p with h | h
    · have := hn.len; rw [h] at this; rw [List.eq_nil_of_length_eq_zero this] at hlt; simp [D.nv] at hlt
    · exact h
  have HU := Lib.hid hu
  have HV := Lib.hid hv
  have HN := Lib.hid hn
  have DU := Lib.hid du
  have DV := Lib.hid dv
  have DN := Lib.hid dn
  have HLT := Lib.hid hlt
  have HNEN := Lib.hid (hn.at_below hppos)
  have HNEU := Lib.hid (fun (g : Nat) (hg : w.heap.size ≤ g) (hpos : 0 < n) (ad : Addr) (e : A = some ad) => (show ad.block ≠ g by have := hu.at_below hpos ad e; omega))
  have HLN := Lib.hid (show D.nv ns < 65536 ^ p by have := D.nv_lt dn; rwa [hn.len] at this)
  have HLV := Lib.hid (show D.nv ys < 2 ^ (16 * m) by have := D.nv_lt dv; rwa [hv.len, D.wpow] at this)
  clear hu du hv dv hn dn hlt
  go_enter Try.func39, Try.ntmps39
  go_wp2_with fail
  refine (noughts_any w ((p : Int) + 1) (p + 1) (by omega) (by omega)).mono ?_
  rintro e w2 ⟨A2, c2, rfl, ho2, hb2⟩
  obtain ⟨g2, rfl, hg21, hg22⟩ := ho2.blk (by omega)
  have HO2 := Lib.hid ho2
  have HB2 := Lib.hid hb2
  have hW2 := hb2.size
  clear ho2 hb2
  have HTW := Lib.hid (show TW w (w2.alloc (.cells #[.slice (some ⟨g2, 0, none⟩) (p + 1) c2] 74)) w2.heap.size g2 (p + 1) c2 (List.replicate (p + 1) 0) (D.nv us) (D.nv ys) (D.nv ns) (16 * m) from by
    refine ⟨HB2.out.trans (((Below.refl w2.heap.size w2).alloc (Nat.le_refl _) _).mono (by omega)), row_start _ HO2.out hg22, ?_⟩
    rw [Nat.div_eq_of_lt HLV.out, D.nv_replicate]; simp)
  go_wp2_with fail
  go_loopw [8] (fun i wr => ∃ (k : Nat) (xs : List Nat), k ≤ 16 * m ∧ i = .int .i64 ((k : Int) - 1) ∧ TW w wr w2.heap.size g2 (p + 1) c2 xs (D.nv us) (D.nv ys) (D.nv ns) k) (fun i _ => (intOf i + 1).toNat)
  case atStart => exact ⟨16 * m, List.replicate (p + 1) 0, Nat.le_refl _, ret_val (by omega), HTW.out⟩
  case round =>
    obtain ⟨k, xs, hk, rfl, hp⟩ := hrel
    have HP := Lib.hid hp
    have hwr := hp.bel.size
    have hbx := hp.row.box
    clear hp
    by_cases hk0 : k = 0
    · subst hk0
      have hr := HP.out.rv
      rw [Nat.pow_zero, Nat.div_one] at hr
      have HC := Lib.hid (cut3_q HP.out.row.own.rd HP.out.row.d16 (by omega) hr 0)
      have HR := Lib.hid hr
      clear hr
      go_wp2_with fail
      refine HC.out.mono ?_
      rintro e w' ⟨rfl, rfl⟩
      go_wp2_with fail
      go_ret
      refine ⟨some ⟨g2, 0, none⟩, c2, rfl, ?_, HP.out.bel⟩
      rw [← HR.out, ← D.take_ln HP.out.row.d16]
      exact HP.out.row.own.takeA (by have := D.ln_le_len HP.out.row.d16; rw [HP.out.row.own.len] at this; exact this)
    · obtain ⟨j, rfl⟩ : ∃ j, k = j + 1 := ⟨k - 1, by omega⟩
      have ek : ((j + 1 : Nat) : Int) - 1 = (j : Int) := by omega
      rw [ek]
      obtain ⟨b, hb⟩ : ∃ b, D.nv ys / 2 ^ j % 2 = b := ⟨_, rfl⟩
      have hb1 : b ≤ 1 := by omega
      have HB := Lib.hid hb
      obtain ⟨r, hr⟩ : ∃ r, D.nv us * (D.nv ys / 2 ^ (j + 1)) % D.nv ns = r := ⟨_, rfl⟩
      have hrN : r < D.nv ns := by rw [← hr]; exact Nat.mod_lt _ (by have := HLT.out; omega)
      have hxv : D.nv xs = r := by rw [← hr]; exact HP.out.rv
      have HST := Lib.hid (times_step hb hr)
      have HXV := Lib.hid hxv
      have HFIT := Lib.hid (show 2 * D.nv xs + 0 < 65536 ^ (p + 1) by have := HLN.out; rw [hxv, Nat.pow_succ]; omega)
      have HRN := Lib.hid hrN
      have HNE2 := Lib.hid (show ∀ ad, C = some ad → ad.block ≠ g2 from fun ad e => by have := HNEN.out ad e; omega)
      clear hb hr hrN hxv ek hk0
      go_wp2_with fail
      refine (double_any _ HP.out.row (b := 0) (by omega) (by omega) HFIT.out).mono ?_
      rintro e w4 ⟨rfl, xs4, hrow4, hv4, hg4⟩
      have hbx4 := hrow4.box
      have HROW4 := Lib.hid hrow4
      have HG4 := Lib.hid hg4
      have HV4 := Lib.hid (show D.nv xs4 = 2 * r by rw [hv4, HXV.out]; rfl)
      have HB4 := Lib.hid (below_grown HP.out.bel hg4 (by omega) hwr)
      have HN4 := Lib.hid ((HN.out.below HP.out.bel).grown hg4 HNE2.out)
      have hw4 := HB4.out.size
      clear hbx hrow4 hg4 hv4
      go_wp2_with fail
      refine (drop_mod w4 HROW4.out HN4.out DN.out HNE2.out (by omega) (by omega) (by rw [HV4.out]; have := HRN.out; omega)).mono ?_
      rintro e w5 ⟨t5, rfl, xs5, hrow5, hv5, hg5⟩
      have hbx5 := hrow5.box
      have HROW5 := Lib.hid hrow5
      have HV5 := Lib.hid (show D.nv xs5 = 2 * r % D.nv ns by rw [hv5, HV4.out])
      have HB5 := Lib.hid (below_grown HB4.out hg5 (by omega) hw4)
      have HN5 := Lib.hid (HN4.out.grown hg5 HNE2.out)
      have hw5 := HB5.out.size
      clear hbx4 hrow5 hg5 hv5
      have HBIT := Lib.hid (bit3_q (HV.out.below HB5.out) DV.out (by omega) HB.out)
      by_cases hb0 : b = 0
      · subst hb0
        go_wp2_with fail
        refine HBIT.out.mono ?_
        rintro e w' ⟨rfl, hdr⟩
        obtain ⟨nd, rfl⟩ := hdr.out
        clear hdr
        go_wp2_with fail
        refine ⟨⟨j, xs5, by omega, rfl, ⟨below_drewN HB5.out nd, HROW5.out.drewN nd, ?_⟩⟩, by simp [intOf]⟩
        rw [HV5.out, HST.out.1 trivial]
      · obtain rfl : b = 1 := by omega
        clear hb0
        go_wp2_with fail
        refine HBIT.out.mono ?_
        rintro e w' ⟨rfl, hdr⟩
        obtain ⟨nd, rfl⟩ := hdr.out
        clear hdr
        go_wp2_with fail
        refine (gain_any _ (HROW5.out.drewN nd) (HU.out.below (below_drewN HB5.out nd)) DU.out (HNEU.out g2 hg21) (by omega) hnp ?_).mono ?_
        · rw [HV5.out, Nat.pow_succ]
          have := HLN.out; have := HLT.out
          have := Nat.mod_lt (2 * r) (show 0 < D.nv ns by omega)
          omega
        rintro e w6 ⟨rfl, xs6, hrow6, hv6, hg6⟩
        have hbx6 := hrow6.box
        have HROW6 := Lib.hid hrow6
        have HV6 := Lib.hid (show D.nv xs6 = 2 * r % D.nv ns + D.nv us by rw [hv6, HV5.out])
        have HB6 := Lib.hid (below_grown (below_drewN HB5.out nd) hg6 (by omega) (by simpa using hw5))
        have HN6 := Lib.hid ((HN5.out.drewN nd).grown hg6 HNE2.out)
        have hw6 := HB6.out.size
        clear hbx5 hrow6 hg6 hv6
        go_wp2_with fail
        refine (drop_mod w6 HROW6.out HN6.out DN.out HNE2.out (by omega) (by omega) (by
          rw [HV6.out]
          have := HLT.out
          have := Nat.mod_lt (2 * r) (show 0 < D.nv ns by omega)
          omega)).mono ?_
        rintro e w7 ⟨t7, rfl, xs7, hrow7, hv7, hg7⟩
        have HROW7 := Lib.hid hrow7
        have HV7 := Lib.hid (show D.nv xs7 = (2 * r % D.nv ns + D.nv us) % D.nv ns by rw [hv7, HV6.out])
        have HB7 := Lib.hid (below_grown HB6.out hg7 (by omega) hw6)
        clear hbx6 hrow7 hg7 hv7
        go_wp2_with fail
        refine ⟨⟨j, xs7, by omega, rfl, ⟨HB7.out, HROW7.out, ?_⟩⟩, by simp [intOf]⟩
        rw [HV7.out, HST.out.2 trivial]
end Go.Proofs.Yteelppebdcgbpaa
namespace Go.Proofs.Yteelppebdcgbpaa
set_option linter.unusedSimpArgs false
set_option linter.unusedVariables false
open Go.RowKit Go.Proofs.YteelppebdcgbpaaW.PrintWords Go.Proofs.YteelppebdcgbpaaW.PrintLast
def dI (l : List Int) : Nat := D.nv (toN l)
def ofD (n : Nat) : List Int := cI (D.dgs n)
def okD (m : Nat) (l : List Int) : Prop := l.length ≤ m ∧ ∀ x ∈ l, 0 ≤ x ∧ x < 65536
instance (m : Nat) (l : List Int) : Decidable (okD m l) := by unfold okD; exact inferInstance
theorem okD.d16 {m : Nat} {l : List Int} (h : okD m l) : D.D16 (toN l) := by
  intro x hx
  simp only [toN, List.mem_map] at hx
  obtain ⟨y, hy, rfl⟩ := hx
  have := h.2 y hy
  omega
theorem okD.le {m m' : Nat} {l : List Int} (h : okD m l) (hm : m ≤ m') : okD m' l := ⟨Nat.le_trans h.1 hm, h.2⟩
theorem okD.pos {m : Nat} {l : List Int} (h : okD m l) : ∀ x ∈ l, 0 ≤ x := fun x hx => (h.2 x hx).1
theorem okD_cI {ds : List Nat} {m : Nat} (h : D.D16 ds) (hl : ds.length ≤ m) : okD m (cI ds) := by
  refine ⟨by rw [cI_length]; exact hl, fun x hx => ?_⟩
  simp only [cI, List.mem_map] at hx
  obtain ⟨y, hy, rfl⟩ := hx
  have := h y hy
  omega
theorem okD_ofD {n m : Nat} (h : D.ln n ≤ m) : okD m (ofD n) := okD_cI (D.dgs_b64 n) h
theorem dI_cI (ds : List Nat) : dI (cI ds) = D.nv ds := by unfold dI; rw [toN_cI]
theorem dI_ofD (n : Nat) : dI (ofD n) = n := by unfold ofD; rw [dI_cI, D.nv_dgs]
theorem ofD_zero : ofD 0 = [] := by unfold ofD; rw [D.dgs_zero]; rfl
theorem ofD_length (n : Nat) : (ofD n).length = D.ln n := by unfold ofD; rw [cI_length]; rfl
theorem okD.lt {m : Nat} {l : List Int} (h : okD m l) : dI l < 65536 ^ l.length := by have := D.nv_lt h.d16; rwa [toN_length] at this
theorem okD.ln {m : Nat} {l : List Int} (h : okD m l) : D.ln (dI l) ≤ l.length := by have := D.ln_nv h.d16; rwa [toN_length] at this
section
variable {A0 A1 A2 : Option Addr} {c0 c1 c2 : Nat} {l0 l1 l2 : List Int} {w : World}
theorem apart_R {t : TypeId} {k : IntKind} {w' : World} {base n n' c c' : Nat} {A A' : Option Addr} {xs ys : List Nat} (ho : Own k t w' base A n c xs) (ho' : Own k t w' base A' n' c' ys) (hap : Apart A A') :
    Kd.R (Kd.int k) t w' base (fun k_ => some k_ ≠ (Value.slice A' n' c').ownBlock) (.slice A n c) (cI xs) ∧ Kd.R (Kd.int k) t w' base (fun k_ => some k_ ≠ (Value.slice A n c).ownBlock) (.slice A' n' c') (cI ys) := by
  refine ⟨R_of_Own ho ?_, R_of_Own ho' ?_⟩
  · rintro g rfl e
    rcases A' with _ | a'
    · simp [Value.ownBlock] at e
    · rcases ho'.ways with ⟨h, _⟩ | ⟨g', h, _⟩
      · cases h
      · rw [h] at e; simp only [Value.ownBlock, Option.some.injEq] at e
        exact hap g rfl (by rw [h, e])
  · rintro g rfl e
    rcases ho.ways with ⟨h, _⟩ | ⟨g', h, _⟩
    · rw [h] at e; simp [Value.ownBlock] at e
    · rw [h] at e; simp only [Value.ownBlock, Option.some.injEq] at e
      exact hap g (by rw [h, e]) rfl
theorem parted_giv {r1 r2 : List Int} (hr0 : Kd.C (Kd.int .i64) w A0 l0.length l0) (hc0 : l0.length ≤ c0) (hr1 : Kd.C (Kd.int .i64) w A1 l1.length l1) (hc1 : l1.length ≤ c1) (h : (if okD 65536 l0 ∧ okD 65536 l1 ∧ 0 < dI l1 then some (ofD (dI l0 / dI l1), ofD (dI l0 % dI l1)) else none) = some (r1, r2)) :
    Calls Try.prog 37 #[.slice A0 l0.length c0, .slice A1 l1.length c1] w fun e w' => ∃ v0_ v1_ : Value, e = .returned (.tuple #[v0_, v1_]) ∧ Kd.R (Kd.int .i64) 3 w' w.heap.size (fun k_ => some k_ ≠ (v1_ : Value).ownBlock) v0_ r1 ∧ Kd.R (Kd.int .i64) 3 w' w.heap.size (fun k_ => some k_ ≠ (v0_ : Value).ownBlock) v1_ r2 ∧ Below w.heap.size w w' := by
  obtain ⟨⟨h0, h1, h2⟩, h⟩ := of_ite h
  simp only [Prod.mk.injEq] at h
  obtain ⟨rfl, rfl⟩ := h
  refine (parted_any w (rd_of_C' hr0 hc0 h0.pos) h0.d16 (rd_of_C' hr1 hc1 h1.pos) h1.d16 h2 h0.1 h1.1).mono ?_
  rintro e w' ⟨A, c, A', c', rfl, ho, ho', hb, hap⟩
  obtain ⟨q1, q2⟩ := apart_R ho ho' hap
  exact ⟨_, _, rfl, q1, q2, hb⟩
theorem times_giv {r : List Int} (hr0 : Kd.C (Kd.int .i64) w A0 l0.length l0) (hc0 : l0.length ≤ c0) (hr1 : Kd.C (Kd.int .i64) w A1 l1.length l1) (hc1 : l1.length ≤ c1) (hr2 : Kd.C (Kd.int .i64) w A2 l2.length l2) (hc2 : l2.length ≤ c2) (h : (if okD 65536 l0 ∧ okD 65536 l1 ∧ okD 65536 l2 ∧ dI l0 < dI l2 ∧ l0.length ≤ l2.length + 1 then some (ofD (dI l0 * dI l1 % dI l2)) else none) = some r) :
    Calls Try.prog 39 #[.slice A0 l0.length c0, .slice A1 l1.length c1, .slice A2 l2.length c2] w fun e w' => ∃ v0_ : Value, e = .returned (v0_) ∧ Kd.R (Kd.int .i64) 3 w' w.heap.size (fun _ => True) v0_ r ∧ Below w.heap.size w w' := by
  obtain ⟨⟨h0, h1, h2, h3, h4⟩, rfl⟩ := of_ite h
  refine (times_any w (rd_of_C' hr0 hc0 h0.pos) h0.d16 (rd_of_C' hr1 hc1 h1.pos) h1.d16 (rd_of_C' hr2 hc2 h2.pos) h2.d16 h3 h0.1 h1.1 h2.1 h4).mono ?_
  rintro e w' ⟨A, c, rfl, ho, hb⟩
  exact ⟨_, rfl, R_of_Own ho (fun _ _ => trivial), hb⟩
theorem cmp3_giv {r : Int} (hr0 : Kd.C (Kd.int .i64) w A0 l0.length l0) (hc0 : l0.length ≤ c0) (hr1 : Kd.C (Kd.int .i64) w A1 l1.length l1) (hc1 : l1.length ≤ c1) (h : (if okD 1048576 l0 ∧ okD 1048576 l1 then some (cmpN (dI l0) (dI l1)) else none) = some r) :
    Calls Try.prog 48 #[.slice A0 l0.length c0, .slice A1 l1.length c1] w fun e w' => e = .returned (.int .i64 r) ∧ Drawn0 w w' := by
  obtain ⟨⟨h0, h1⟩, rfl⟩ := of_ite h
  refine (cmp3_any w (rd_of_C' hr0 hc0 h0.pos) h0.d16 (rd_of_C' hr1 hc1 h1.pos) h1.d16 h0.1 h1.1).mono ?_
  rintro e w' ⟨rfl, rfl⟩
  exact ⟨rfl, Drawn0.refl _⟩
theorem bit3_giv {a1 r : Int} (hr0 : Kd.C (Kd.int .i64) w A0 l0.length l0) (hc0 : l0.length ≤ c0) (h : (if okD 1048576 l0 ∧ 0 ≤ a1 ∧ a1 ≤ 4611686018427387904 then some ((dI l0 / 2 ^ a1.toNat % 2 : Nat) : Int) else none) = some r) :
    Calls Try.prog 56 #[.slice A0 l0.length c0, .int .i64 a1] w fun e w' => e = .returned (.int .i64 r) ∧ Drawn0 w w' := by
  obtain ⟨⟨h0, h1, h2⟩, rfl⟩ := of_ite h
  have := bit3_any w (rd_of_C' hr0 hc0 h0.pos) h0.d16 a1.toNat (by omega)
  rwa [Int.toNat_of_nonneg h1] at this
end
end Go.Proofs.Yteelppebdcgbpaa
namespace Go.Proofs.Yteelppebdcgbpaa.Cr
open Go.RowKit Go.Proofs.YteelppebdcgbpaaW.PrintWords Go.Proofs.YteelppebdcgbpaaW.PrintLast Go.Proofs.YteelppebdcgbpaaW.PrintMore
attribute [local go_sem] max2_int min2_int max_two min_two max_three min_three max_four min_four   -- for this text's walks alone
set_option linter.unusedVariables false
set_option linter.unusedSimpArgs false
def errW : Option Int → Value
  | none => .nilIface
  | some c => .iface 0 (.int .i64 c)
theorem errW_none : errW none = .nilIface := rfl
theorem errW_some (c : Int) : errW (some c) = .iface 0 (.int .i64 c) := rfl
theorem info3 : (Try.prog.info? 3).map (fun i => (i.zero, i.size, i.bytes)) = some (some (.int .i64 0), 1, 8) := by kernel_rfl
theorem info35 : (Try.prog.info? 35).map (fun i => (i.zero, i.size, i.bytes)) = some (some (.int .u64 0), 1, 8) := by kernel_rfl
end Go.Proofs.Yteelppebdcgbpaa.Cr
