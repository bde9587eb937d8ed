/- The document's filter: a row that walks along its block; what is put in. -/
import Derived.Test.YtbiajjdjbnnggaaGp
import Derived.Test.YtbiajjdjbnnggaaGf
import Derived.ArgAppend
import Derived.Deep.RegionLaw
namespace Go.Proofs.Ytbiajjdjbnnggaa
set_option linter.unusedSimpArgs false
set_option linter.unusedVariables false
set_option maxRecDepth 100000
open Go.RowKit
attribute [local go_sem] toldUpon_value toldUpon_skip toldUpon_enter

/-- a row of samples somewhere in a block above gx, with its spare -/
def SL (w : World) (gx : Nat) (A : Option Addr) (n c : Nat) (L : List Smp) : Prop := L.length = n ∧ ((A = none ∧ n = 0 ∧ c = 0) ∨ ∃ g pre rest, A = some ⟨g, List.length pre, none⟩ ∧ gx < g ∧ n ≤ c ∧ c ≤ maxLen ∧ (c - n) * 4 ≤ List.length rest ∧ Bk w g 27 (pre ++ (L.flatMap sc ++ rest)).toArray)
theorem SL.below {w w' : World} {gx : Nat} {A : Option Addr} {n c : Nat} {L : List Smp} (h : SL w gx A n c L) (hb : Below w.heap.size w w') : SL w' gx A n c L :=
  ⟨h.1, h.2.imp id fun ⟨g, pre, rest, h1, h2, h3, h4, h5, h6⟩ => ⟨g, pre, rest, h1, h2, h3, h4, h5, h6.below hb h6.lt⟩⟩
theorem set4 (X : List Value) (a b c d : Value) (r : List Value) (v0 v1 v2 v3 : Value) : ((((X ++ a :: b :: c :: d :: r).set X.length v0).set (X.length + 1) v1).set (X.length + 2) v2).set (X.length + 3) v3 = X ++ v0 :: v1 :: v2 :: v3 :: r := by
  simp [List.set_append]
theorem SL.of_own {w : World} {gx : Nat} {v : Value} {n : Nat} {L : List Smp} {B : Nat} (hB : gx < B) (h : w.ownsRow B 27 4 v n (L.flatMap sc)) (hn : 0 < n) : ∃ A c, v = .slice A n c ∧ SL w gx A n c L := by
  have hl : L.length = n := by have := h.1; rw [sc_len] at this; omega
  rcases h.2 with ⟨_, h0⟩ | ⟨g, cap, cur, h1, h2, h3, h4, h5, h6, h7⟩
  · omega
  · refine ⟨_, _, h1, hl, .inr ⟨g, [], cur.toList.drop (n * 4), rfl, by omega, h4, h5, ?_, ?_⟩⟩
    · rw [List.length_drop, Array.length_toList, h6]; omega
    · unfold Bk
      rw [← h7, List.nil_append, List.take_append_drop]
      exact h3
section
variable {P : Program} (w : World)
theorem wpList_append_rf {ops : Array Oper} {rest : List Oper} {o : Oper} {a : Act} {Q : Exit → Act → World → Prop} (hgd : o.guard = none) (s x : Operand) (t : TypeId)
    (ho : o.op = .call { callee := .builtin .append, args := #[s, x], argTypes := #[t, t] })
    (i : TypeInfo) (z : Value) (ht : P.underlying t = some (.slice 27)) (hi : P.info? 27 = some i) (hz : i.zero = some z)
    (hsize : i.size = 4) (hby : i.bytes = 32) (hzs : z.cells.size = 4) (gx : Nat)
    (A : Option Addr) (n c : Nat) (L : List Smp) (hs : a.eval s = .slice A n c) (hL : SL w gx A n c L) (g d : Nat) (y : Smp) (hx : a.eval x = .slice (some ⟨g, 0, none⟩) 1 d) (hr : Bk w g 27 (sc y).toArray)
    (hn : n ≤ 1000) (hbase : gx < w.heap.size)
    (h : ∀ A' c' w', SL w' gx A' (n + 1) c' (L ++ [y]) → Below (gx + 1) w w' → w.heap.size ≤ w'.heap.size → wpList P ops Q rest (a.put o.dst (.slice A' (n + 1) c')) w') : wpList P ops Q (o :: rest) a w := by
  have hl := hL.1
  rcases hL.2 with ⟨rfl, rfl, rfl⟩ | ⟨gb, pre, spare, rfl, hg, hnc, hcm, hsp, hbk⟩
  · obtain rfl := List.eq_nil_of_length_eq_zero hl
    refine wpList_append_s w hgd s x t ho (gx + 1) i z ht hi hz hsize hby hzs none 0 0 [] hs (OwnS.nil _ _) g d y hx hr (by omega) (by omega) ?_
    intro A' c' w' h1 h2 h3
    obtain ⟨A2, c2, e, h4⟩ := SL.of_own (gx := gx) (Nat.lt_succ_self _) h1 (by omega)
    simp only [Value.slice.injEq] at e
    obtain ⟨rfl, _, rfl⟩ := e
    exact h A' c' w' h4 h2 h3
  · have hol : (L.flatMap sc).length = n * 4 := by rw [sc_len, hl]; omega
    have hcell : ∀ j, w.cell? ⟨gb, pre.length + j, none⟩ = (L.flatMap sc ++ spare)[j]? := fun j => by
      rw [hbk.cell, List.getElem?_toArray, List.getElem?_append_right (by omega)]
      congr 1; omega
    refine wpList_append_arg w hgd s x t ho 27 i z 4 32 ht hi hz hsize hby hzs (by omega) gb pre.length n c (L.flatMap sc) hs hol (fun j u hu => ?_) ⟨g, 0, none⟩ 1 d (sc y) hx rfl (fun j u hu => by
      rw [ad_plain, hr.cell j, List.getElem?_toArray]; exact hu) (by simp [sc, Value.oneCell']) (fun hroom j hj => ?_) (by unfold maxLen; omega) (by omega) (fun hroom => ?_) (fun hgrow v' w' h1 h2 => ?_)
    · rw [hcell, List.getElem?_append_left (List.getElem?_eq_some_iff.1 hu).1]; exact hu
    · have hj4 : j < 4 := hj
      refine ⟨?_, hbk.frozen _⟩
      rw [show pre.length + n * 4 + j = pre.length + (n * 4 + j) by omega, hcell, List.getElem?_append_right (by omega), List.getElem?_eq_getElem (by omega)]; rfl
    · match spare, hsp, hbk with
      | [], hsp, _ => simp at hsp; omega
      | [_], hsp, _ => simp at hsp; omega
      | [_, _], hsp, _ => simp at hsp; omega
      | [_, _, _], hsp, _ => simp at hsp; omega
      | s0 :: s1 :: s2 :: s3 :: spare, hsp, hbk =>
        have hX : (pre ++ L.flatMap sc).length = pre.length + n * 4 := by rw [List.length_append, hol]
        refine h _ _ _ ⟨by simp [hl], .inr ⟨gb, pre, spare, rfl, hg, hroom, hcm, by simp at hsp; omega, ?_⟩⟩ ?_ ?_
        · have k := (((hbk.set (pre.length + n * 4) (.int .i64 y.o)).set (pre.length + n * 4 + 1) (.int .i64 y.d)).set (pre.length + n * 4 + 2) (.int .i64 y.p)).set (pre.length + n * 4 + 3) (.int .i64 y.a)
          simp only [List.setIfInBounds_toArray] at k
          rw [← List.append_assoc, ← hX, set4] at k
          rw [List.flatMap_append]
          rw [hX] at k
          simpa [sc, World.setCells] using k
        · have hb : ∀ o, gx + 1 ≤ (⟨gb, o, none⟩ : Addr).block := fun _ => hg
          exact ((((Below.refl (gx + 1) w).setCell (hb (pre.length + n * 4)) _).setCell (hb (pre.length + n * 4 + 1)) _).setCell (hb (pre.length + n * 4 + 1 + 1)) _).setCell (hb (pre.length + n * 4 + 1 + 1 + 1)) _
        · simp [sc, World.setCells]
    · obtain ⟨A2, c2, rfl, h4⟩ := SL.of_own (gx := gx) (L := L ++ [y]) hbase (by rw [List.flatMap_append]; simpa using h1) (Nat.succ_pos n)
      exact h A2 c2 w' h4 ((Below.refl (gx + 1) w).grown h2 hbase (fun g hg => by cases hg)) h2.size
end
section
variable {P : Program} (w : World)
theorem run_append_rf (t ty : TypeId) (i : TypeInfo) (z : Value) (ht : P.underlying t = some (.slice 27)) (hi : P.info? 27 = some i) (hz : i.zero = some z)
    (hsize : i.size = 4) (hby : i.bytes = 32) (hzs : z.cells.size = 4) (gx : Nat)
    (A : Option Addr) (n c : Nat) (L : List Smp) (hL : SL w gx A n c L) (g d : Nat) (y : Smp) (hr : Bk w g 27 (sc y).toArray)
    (hn : n ≤ 1000) (hbase : gx < w.heap.size) :
    ∃ A' c' w', (Builtin.append_ #[t, t] ty #[.slice A n c, .slice (some ⟨g, 0, none⟩) 1 d]).run P w = .ok (.slice A' (n + 1) c') w' ∧ SL w' gx A' (n + 1) c' (L ++ [y]) ∧ Below (gx + 1) w w' ∧ w.heap.size ≤ w'.heap.size := by
  have hl := hL.1
  have hnews : ∀ j u, (sc y)[j]? = some u → w.cell? ((⟨g, 0, none⟩ : Addr).add j) = some u := fun j u hu => by
    rw [ad_plain, hr.cell j, List.getElem?_toArray]; exact hu
  rcases hL.2 with ⟨rfl, rfl, rfl⟩ | ⟨gb, pre, spare, rfl, hg, hnc, hcm, hsp, hbk⟩
  · obtain rfl := List.eq_nil_of_length_eq_zero hl
    obtain ⟨v', w', hrun, h2, h3, _, _⟩ := run_append_own_at (P := P) w (gx + 1) t ty 27 i z 4 32 ht hi hz hsize hby hzs (by omega) (.slice none 0 0) 0 ([].flatMap sc) (OwnS.nil w (gx + 1)) ⟨g, 0, none⟩ 1 d (sc y) rfl hnews (by simp [sc, Value.oneCell']) (by unfold maxLen; omega) (by omega) (by omega)
    obtain ⟨A2, c2, rfl, h4⟩ := SL.of_own (gx := gx) (L := [] ++ [y]) (Nat.lt_succ_self _) (by simpa using h2) (by omega)
    exact ⟨A2, c2, w', hrun, h4, (Below.refl (gx + 1) w).grown h3 (by omega) (fun g hg => by simp [Value.ownBlock] at hg), h3.size⟩
  · have hol : (L.flatMap sc).length = n * 4 := by rw [sc_len, hl]; omega
    have hcell : ∀ j, w.cell? ⟨gb, pre.length + j, none⟩ = (L.flatMap sc ++ spare)[j]? := fun j => by
      rw [hbk.cell, List.getElem?_toArray, List.getElem?_append_right (by omega)]
      congr 1; omega
    by_cases hroom : n + 1 ≤ c
    · match spare, hsp, hbk, hcell with
      | [], hsp, _, _ => simp at hsp; omega
      | [_], hsp, _, _ => simp at hsp; omega
      | [_, _], hsp, _, _ => simp at hsp; omega
      | [_, _, _], hsp, _, _ => simp at hsp; omega
      | s0 :: s1 :: s2 :: s3 :: spare, hsp, hbk, hcell =>
        have hX : (pre ++ L.flatMap sc).length = pre.length + n * 4 := by rw [List.length_append, hol]
        have hrun := run_append_room_cells (P := P) w t ty 27 i ht hi gb pre.length n c ⟨g, 0, none⟩ 1 d (sc y) (by rw [hsize]; rfl) hnews (by simp [sc, Value.oneCell']) hroom (fun j hj => by
          have hj4 : j < 4 := hj
          rw [hsize, show pre.length + n * 4 + j = pre.length + (n * 4 + j) by omega, hcell, List.getElem?_append_right (by omega), List.getElem?_eq_getElem (by rw [hol]; simp only [List.length_cons]; omega)]; rfl) (fun j hj => hbk.frozen _)
        rw [hsize] at hrun
        refine ⟨_, _, _, hrun, ⟨by simp [hl], .inr ⟨gb, pre, spare, rfl, hg, hroom, hcm, by simp at hsp; omega, ?_⟩⟩, ?_, ?_⟩
        · have k := (((hbk.set (pre.length + n * 4) (.int .i64 y.o)).set (pre.length + n * 4 + 1) (.int .i64 y.d)).set (pre.length + n * 4 + 2) (.int .i64 y.p)).set (pre.length + n * 4 + 3) (.int .i64 y.a)
          simp only [List.setIfInBounds_toArray] at k
          rw [← List.append_assoc, ← hX, set4] at k
          rw [List.flatMap_append]
          rw [hX] at k
          simpa [sc, World.setCells] using k
        · have hb : ∀ o, gx + 1 ≤ (⟨gb, o, none⟩ : Addr).block := fun _ => hg
          exact ((((Below.refl (gx + 1) w).setCell (hb (pre.length + n * 4)) _).setCell (hb (pre.length + n * 4 + 1)) _).setCell (hb (pre.length + n * 4 + 1 + 1)) _).setCell (hb (pre.length + n * 4 + 1 + 1 + 1)) _
        · simp [sc, World.setCells]
    · obtain ⟨v', w', hrun, h1, h2⟩ := run_append_arg_grows (P := P) w t ty 27 i z 4 32 ht hi hz hsize hby hzs (by omega) ⟨gb, pre.length, none⟩ n c (L.flatMap sc) hol (fun j u hu => by
        rw [Addr.add_lit, hcell, List.getElem?_append_left (List.getElem?_eq_some_iff.1 hu).1]; exact hu) ⟨g, 0, none⟩ 1 d (sc y) rfl hnews (by omega) (by unfold maxLen; omega) (by omega)
      obtain ⟨A2, c2, rfl, h4⟩ := SL.of_own (gx := gx) (L := L ++ [y]) hbase (by rw [List.flatMap_append]; simpa using h1) (Nat.succ_pos n)
      exact ⟨A2, c2, w', hrun, h4, (Below.refl (gx + 1) w).grown h2 hbase (fun g hg => by cases hg), h2.size⟩
end
theorem step_append_rf {P : Program} {ops : Array Oper} {o : Oper} {a : Act} {w : World} {K : Act → World → Prop} {Q : Exit → Act → World → Prop} {E : Prop} (hgd : o.guard = none) (s x : Operand) (t : TypeId)
    (ho : o.op = .call { callee := .builtin .append, args := #[s, x], argTypes := #[t, t] })
    (i : TypeInfo) (z : Value) (ht : P.underlying t = some (.slice 27)) (hi : P.info? 27 = some i) (hz : i.zero = some z)
    (hsize : i.size = 4) (hby : i.bytes = 32) (hzs : z.cells.size = 4) (gx : Nat)
    (A : Option Addr) (n c : Nat) (L : List Smp) (hs : a.eval s = .slice A n c) (hL : SL w gx A n c L) (g d : Nat) (y : Smp) (hx : a.eval x = .slice (some ⟨g, 0, none⟩) 1 d) (hr : Bk w g 27 (sc y).toArray)
    (hn : n ≤ 1000) (hbase : gx < w.heap.size)
    (hK : ∀ A' c' w', SL w' gx A' (n + 1) c' (L ++ [y]) → Below (gx + 1) w w' → w.heap.size ≤ w'.heap.size → K (a.put o.dst (.slice A' (n + 1) c')) w') :
    if Region.wanted o (yielded ops a.tmps) = true then Oper.wp P o a w K Q else E := by
  have hw : Region.wanted o (yielded ops a.tmps) = true := by simp [Region.wanted, hgd]
  rw [if_pos hw]
  obtain ⟨A', c', w', hrun, h1, h2, h3⟩ := run_append_rf (P := P) w t o.type i z ht hi hz hsize hby hzs gx A n c L hL g d y hr hn hbase
  unfold Oper.wp
  simp [execOp, ho, resolve, invoke, builtin, hs, hx, hrun, Result.andThen]
  exact hK _ _ _ h1 h2 h3
end Go.Proofs.Ytbiajjdjbnnggaa
