/- Rows of values of one cell each in memory; points gone through. -/
import Derived.Test.YteemglgbhdpodaaP2
import Derived.Test.YteemglgbhdpodaaN1
import Derived.Maps.AppendAt
import Derived.Deep.AppendLies
import Derived.RegionTactic
import Derived.OwnWalk
import Derived.Laws.MakeOwn
import Derived.ChangeSlices
import Derived.DataElems
namespace Go.Proofs.Yteemglgbhdpodaa
set_option linter.unusedSimpArgs false
set_option linter.unusedVariables false
set_option maxRecDepth 100000
open Go.RowKit

/-- The slice reads as these values. -/
def RdV (w : World) (A : Option Addr) (n c : Nat) (us : List Value) : Prop :=
  us.length = n ∧ n ≤ c ∧ n ≤ 9223372036854775807 ∧ (0 < n → ∃ ad, A = some ad ∧ ad.block < w.heap.size ∧ ∀ (j : Nat) (u : Value), us[j]? = some u → w.cell? (ad.add j) = some u)
section
variable {w w' : World} {A : Option Addr} {n c : Nat} {us : List Value}
theorem RdV.len (h : RdV w A n c us) : us.length = n := h.1
theorem RdV.cap (h : RdV w A n c us) : n ≤ c := h.2.1
theorem RdV.max (h : RdV w A n c us) : n ≤ 9223372036854775807 := h.2.2.1
theorem RdV.nil (w : World) (A : Option Addr) (c : Nat) : RdV w A 0 c [] := ⟨rfl, Nat.zero_le _, by omega, fun h => absurd h (by omega)⟩
theorem RdV.below (h : RdV w A n c us) (hb : Below w.heap.size w w') : RdV w' A n c us := by
  obtain ⟨h1, h2, h2', h3⟩ := h
  refine ⟨h1, h2, h2', fun hn => ?_⟩
  obtain ⟨ad, rfl, hlt, hc⟩ := h3 hn
  exact ⟨ad, rfl, Nat.lt_of_lt_of_le hlt hb.size, fun j x hx => (hb.cell (p := ad.add j) (adlt hlt j)).trans (hc j x hx)⟩
theorem RdV.form (h : RdV w A n c us) (hn : 0 < n) : ∃ ad, A = some ad ∧ ad.block < w.heap.size ∧ ∀ (j : Nat) (u : Value), us[j]? = some u → w.cell? (ad.add j) = some u := h.2.2.2 hn
end
/-- The call's own row of values. -/
def OwnV (e : TypeId) (w : World) (base : Nat) (A : Option Addr) (n c : Nat) (us : List Value) : Prop := w.ownsRow base e 1 (.slice A n c) n us
section
variable {e : TypeId} {w w' : World} {base : Nat} {A : Option Addr} {n c : Nat} {us : List Value}
theorem OwnV.len (h : OwnV e w base A n c us) : us.length = n := by have := h.1; omega
theorem OwnV.nil (e : TypeId) (w : World) (base : Nat) : OwnV e w base none 0 0 [] := World.ownsRow_nil w base e 1
theorem OwnV.ways (h : OwnV e w base A n c us) : (A = none ∧ n = 0 ∧ c = 0 ∧ us = []) ∨ ∃ g, A = some ⟨g, 0, none⟩ ∧ base ≤ g ∧ g < w.heap.size ∧ n ≤ c ∧ c ≤ 9223372036854775807 := by
  rcases h.2 with ⟨h1, h2⟩ | ⟨g, cap, cur, h1, hb, hg, hnc, hm, _⟩
  · left
    simp only [Value.slice.injEq] at h1
    exact ⟨h1.1, h1.2.1, h1.2.2, List.eq_nil_of_length_eq_zero (by rw [OwnV.len h, h2])⟩
  · right
    simp only [Value.slice.injEq] at h1
    obtain ⟨rfl, _, rfl⟩ := h1
    exact ⟨g, rfl, hb, (Array.getElem?_eq_some_iff.1 hg).1, hnc, by unfold maxLen at hm; omega⟩
theorem OwnV.rd (h : OwnV e w base A n c us) : RdV w A n c us := by
  rcases h.ways with ⟨rfl, rfl, rfl, rfl⟩ | ⟨g, rfl, _, hlt, hnc, hm⟩
  · exact RdV.nil _ _ _
  · exact ⟨h.len, hnc, by omega, fun hn => ⟨⟨g, 0, none⟩, rfl, hlt, fun j x hx => World.ownsRow.cells h (g := g) rfl j x hx⟩⟩
theorem OwnV.below (h : OwnV e w base A n c us) (hb : Below w.heap.size w w') : OwnV e w' base A n c us := by
  refine ⟨h.1, ?_⟩
  rcases h.2 with hn | ⟨g, cap, cur, h1, hg, hh, rest⟩
  · exact .inl hn
  · exact .inr ⟨g, cap, cur, h1, hg, (hb.block g (Array.getElem?_eq_some_iff.1 hh).1).trans hh, rest⟩
end
/-- a block of one cell, as a slice -/
theorem RdV.one {w : World} {g : Nat} {t : TypeId} {u : Value} (h : Bk w g t #[u]) : RdV w (some ⟨g, 0, none⟩) 1 1 [u] :=
  ⟨rfl, Nat.le_refl _, by omega, fun _ => ⟨_, rfl, h.lt, fun j x hx => by
    have hj : j = 0 := by
      rcases j with _ | j
      · rfl
      · simp at hx
    subst hj
    have := h.cell 0
    simp at hx
    subst hx
    exact this⟩⟩
section
variable {P : Program} (w : World)
theorem run_append_rdv (base : Nat) (t ty e : TypeId) (i : TypeInfo) (z : Value) (bytes : Nat) (ht : P.underlying t = some (.slice e)) (hi : P.info? e = some i) (hz : i.zero = some z)
    (hsize : i.size = 1) (hby : i.bytes = bytes) (hzs : z.cells.size = 1)
    (A : Option Addr) (n c : Nat) (us : List Value) (hown : OwnV e w base A n c us) (B : Option Addr) (m d : Nat) (ys : List Value) (h0 : 0 < m) (hr : RdV w B m d ys) (hone : ∀ u ∈ ys, u.oneCell' = true)
    (h63 : n + m ≤ maxLen) (hbytes : (n + m) * bytes ≤ 140737488355328) (hb1 : 1 ≤ bytes) (hbase : base ≤ w.heap.size) :
    ∃ A' c' w', (Builtin.append_ #[t, t] ty #[.slice A n c, .slice B m d]).run P w = .ok (.slice A' (n + m) c') w' ∧ OwnV e w' base A' (n + m) c' (us ++ ys) ∧ Below base w w' ∧ w.heap.size ≤ w'.heap.size ∧
      (∀ g, g < w.heap.size → (∀ o, A ≠ some ⟨g, o, none⟩) → w'.heap[g]? = w.heap[g]?) ∧ ((Value.slice A' (n + m) c').ownBlock = (Value.slice A n c).ownBlock ∨ (Value.slice A' (n + m) c').ownBlock = some w.heap.size) := by
  obtain ⟨ad, rfl, hlt, hc⟩ := hr.form h0
  obtain ⟨v', w', hrun, h2, h3, _, h7⟩ := run_append_own_at (P := P) w base t ty e i z 1 bytes ht hi hz hsize hby hzs (by omega) (.slice A n c) n us hown ad m d ys (by rw [hr.len]; omega) (fun j u hu => by simpa using hc j u hu) hone h63 hbytes hbase
  have shape : ∃ A' c', v' = .slice A' (n + m) c' := by
    rcases h2.2 with ⟨h1, h2⟩ | ⟨g, cap, cur, h1, _⟩
    · exact ⟨none, 0, by rw [h1, h2]⟩
    · exact ⟨_, _, h1⟩
  obtain ⟨A', c', rfl⟩ := shape
  refine ⟨A', c', w', hrun, h2, (Below.refl _ _).grown h3 hbase (fun g hg => ((World.ownsRow.lt hown) g hg).1), h3.size, ?_, h7⟩
  intro g hg hne
  refine h3.block g hg ?_
  rcases hown.ways with ⟨rfl, _⟩ | ⟨g', rfl, _⟩
  · simp [Value.ownBlock]
  · simp only [Value.ownBlock]
    intro e
    simp only [Option.some.injEq] at e
    exact hne 0 (by rw [e])
theorem wpList_append_rdv {ops : Array Oper} {rest : List Oper} {o : Oper} {a : Act} {Q : Exit → Act → World → Prop} (hgd : o.guard = none) (s x : Operand) (t : TypeId)
    (ho : o.op = .call { callee := .builtin .append, args := #[s, x], argTypes := #[t, t] })
    (base : Nat) (e : TypeId) (i : TypeInfo) (z : Value) (bytes : Nat) (ht : P.underlying t = some (.slice e)) (hi : P.info? e = some i) (hz : i.zero = some z)
    (hsize : i.size = 1) (hby : i.bytes = bytes) (hzs : z.cells.size = 1)
    (A : Option Addr) (n c : Nat) (us : List Value) (hs : a.eval s = .slice A n c) (hown : OwnV e w base A n c us) (B : Option Addr) (m d : Nat) (ys : List Value) (hx : a.eval x = .slice B m d) (h0 : 0 < m) (hr : RdV w B m d ys) (hone : ∀ u ∈ ys, u.oneCell' = true)
    (h63 : n + m ≤ maxLen) (hbytes : (n + m) * bytes ≤ 140737488355328) (hb1 : 1 ≤ bytes) (hbase : base ≤ w.heap.size)
    (h : ∀ A' c' w', OwnV e w' base A' (n + m) c' (us ++ ys) → Below base w w' → w.heap.size ≤ w'.heap.size → (∀ g, g < w.heap.size → (∀ o, A ≠ some ⟨g, o, none⟩) → w'.heap[g]? = w.heap[g]?) → ((Value.slice A' (n + m) c').ownBlock = (Value.slice A n c).ownBlock ∨ (Value.slice A' (n + m) c').ownBlock = some w.heap.size) → wpList P ops Q rest (a.put o.dst (.slice A' (n + m) c')) w') : wpList P ops Q (o :: rest) a w :=
  wpList_plain hgd fun K hK => by
    obtain ⟨A', c', w', hrun, h2, h3, h4, h5, h6⟩ := run_append_rdv (P := P) w base t o.type e i z bytes ht hi hz hsize hby hzs A n c us hown B m d ys h0 hr hone h63 hbytes hb1 hbase
    unfold Oper.wp execOp
    simp only [ho, resolve, invoke, builtin, Sem.run_bind, Sem.run_pure, Result.andThen_ok, List.map_toArray, List.map_cons, List.map_nil, hs, hx, hrun]
    exact hK _ _ (h A' c' w' h2 h3 h4 h5 h6)
end
/-- rows in blocks of their own -/
def obk (A : Option Addr) : Option Nat := (Value.slice A 0 0).ownBlock
def Apt (A B : Option Addr) : Prop := ∀ g, obk A = some g → obk B ≠ some g
theorem obk_some (g : Nat) : obk (some ⟨g, 0, none⟩) = some g := rfl
theorem Apt.symm {A B : Option Addr} (h : Apt A B) : Apt B A := fun g h1 h2 => h g h2 h1
theorem Apt.left {A A' B : Option Addr} {w : World} {e : TypeId} {base n c : Nat} {us : List Value} (h : Apt A B) (hB : OwnV e w base B n c us) (hA : obk A' = obk A ∨ obk A' = some w.heap.size) : Apt A' B := by
  intro g h1 h2
  rcases hA with h3 | h3
  · exact h g (h3 ▸ h1) h2
  · rw [h3] at h1
    have := Option.some.inj h1
    subst this
    rcases hB.ways with ⟨rfl, _⟩ | ⟨g', rfl, _, hlt, _⟩
    · cases h2
    · rw [obk_some] at h2
      have := Option.some.inj h2
      omega
/-- an append onto another row -/
theorem OwnV.keep {A B : Option Addr} {w w' : World} {e : TypeId} {base n c : Nat} {us : List Value} (h : OwnV e w base B n c us) (hap : Apt A B)
    (hk : ∀ g, g < w.heap.size → (∀ o, A ≠ some ⟨g, o, none⟩) → w'.heap[g]? = w.heap[g]?) : OwnV e w' base B n c us := by
  refine ⟨h.1, ?_⟩
  rcases h.2 with hn | ⟨g, cap, cur, h1, hg, hh, rest⟩
  · exact .inl hn
  · simp only [Value.slice.injEq] at h1
    obtain ⟨rfl, _, rfl⟩ := h1
    refine .inr ⟨g, _, cur, rfl, hg, (hk g (Array.getElem?_eq_some_iff.1 hh).1 fun o ho => ?_).trans hh, rest⟩
    exact hap g (by rw [ho]; rfl) (obk_some g)
/-- points, floats as values -/
def cvs (zs : List (Nat × Nat)) : List Value := zs.map fun z => .complex .f64 z.1 z.2
def fvs (xs : List Nat) : List Value := xs.map fun x => .float .f64 x
theorem cvs_len (zs : List (Nat × Nat)) : (cvs zs).length = zs.length := by simp [cvs]
theorem fvs_len (zs : List Nat) : (fvs zs).length = zs.length := by simp [fvs]
/-- a sum of plain answers, from one on -/
def fsumF (o : Option Nat) (l : List Nat) : Option Nat := l.foldl (fun s x => fop .add s (mk x)) o
theorem fsumF_snoc (o : Option Nat) (l : List Nat) (x : Nat) : fsumF o (l ++ [x]) = fop .add (fsumF o l) (mk x) := by simp [fsumF]
theorem fsumF_take (o : Option Nat) {l : List Nat} {k : Nat} (h : k < l.length) : fsumF o (l.take (k + 1)) = fop .add (fsumF o (l.take k)) (mk l[k]) := by
  rw [List.take_succ_eq_append_getElem h, fsumF_snoc]
def fsum (l : List Nat) : Option Nat := fsumF (mk 0) l
def sumC : Value := .func (.func 76) #[] #[]
theorem fold_sum (w : World) {A : Option Addr} {n c : Nat} {zs : List (Nat × Nat)} (hr : RdV w A n c (cvs zs)) :
    Calls Try.prog 75 #[.slice A n c, .complex .f64 0 0, .func (.func 76) #[] #[]] w (CE (fsum (zs.map Prod.fst)) (fsum (zs.map Prod.snd)) w) := by
  have hl : zs.length = n := by have := hr.len; rwa [cvs_len] at this
  have hmx := hr.max
  go_enter Try.func75, Try.ntmps75
  go_wp2_with fail
  go_loopw [1, 11] (fun x i wr => ∃ (t a b : Nat), t ≤ n ∧ i = .int .i64 (t : Int) ∧ x = .complex .f64 a b ∧ a < 2 ^ 64 ∧ b < 2 ^ 64 ∧ mk a = fsum ((zs.map Prod.fst).take t) ∧ mk b = fsum ((zs.map Prod.snd).take t) ∧ Below w.heap.size w wr) (fun _ i _ => n - (intOf i).toNat)
  case atStart => exact ⟨0, 0, 0, Nat.zero_le _, rfl, rfl, by decide, by decide, rfl, rfl, Below.refl _ _⟩
  case round =>
    obtain ⟨t, a, b, ht, rfl, rfl, la, lb, ea, eb, hbel⟩ := hrel
    by_cases hlt : t < n
    · obtain ⟨ad, rfl, hab, hac⟩ := (hr.below hbel).form (by omega)
      obtain ⟨p, q, hz⟩ : ∃ p q, zs[t] = (p, q) := ⟨_, _, rfl⟩
      have cx := hac t (.complex .f64 p q) (by rw [cvs, List.getElem?_map, List.getElem?_eq_getElem (by omega), hz]; rfl)
      have a1 : (t : Int) < (n : Int) := by omega
      have a0 : (0 : Int) ≤ (t : Int) := by omega
      have HA := Lib.hid (show fop .add (fsum ((zs.map Prod.fst).take t)) (mk p) = fsum ((zs.map Prod.fst).take (t + 1)) by
        unfold fsum; rw [fsumF_take _ (by simp; omega)]; simp [hz])
      have HB := Lib.hid (show fop .add (fsum ((zs.map Prod.snd).take t)) (mk q) = fsum ((zs.map Prod.snd).take (t + 1)) by
        unfold fsum; rw [fsumF_take _ (by simp; omega)]; simp [hz])
      have EA := Lib.hid ea
      have EB := Lib.hid eb
      have HBEL := Lib.hid hbel
      have hs := hbel.size
      have i1 : IntKind.i64.wrap ((t : Int) + 1) = (t : Int) + 1 := IntWalk.i64_in _ (by omega)
      clear ea eb hac hz hbel
      have hC := sum1_any wr EA.out EB.out (rfl : mk p = mk p) (rfl : mk q = mk q)
      go_wp2_with (go_at_call 76; refine hC.mono ?_; rintro e w2 ⟨a2, b2, rfl, la2, lb2, ea2, eb2, bw⟩)
      go_roundw
      case rel => exact ⟨t + 1, a2, b2, by omega, by go_num, rfl, la2, lb2, by rw [ea2, HA.out], by rw [eb2, HB.out], HBEL.out.trans (bw.mono hs)⟩
      case measure => simp [intOf]; omega
    · obtain rfl : n = t := by omega
      go_wp2_with fail
      go_ret
      refine ⟨a, b, rfl, la, lb, ?_, ?_, hbel⟩
      · rw [ea, List.take_of_length_le (by simp; omega)]
      · rw [eb, List.take_of_length_le (by simp; omega)]
theorem sum_any (w : World) {A : Option Addr} {n c : Nat} {zs : List (Nat × Nat)} (hr : RdV w A n c (cvs zs)) :
    Calls Try.prog 48 #[.slice A n c] w (CE (fsum (zs.map Prod.fst)) (fsum (zs.map Prod.snd)) w) := by
  have hF := fold_sum w hr
  go_enter Try.func48, Try.ntmps48
  go_wp2_with (go_at_call 75; refine hF.mono ?_; rintro e w2 ⟨a2, b2, rfl, la2, lb2, ea2, eb2, bw⟩)
  go_ret
  exact ⟨a2, b2, rfl, la2, lb2, ea2, eb2, bw⟩
end Go.Proofs.Yteemglgbhdpodaa
