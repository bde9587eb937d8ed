/- A filter's row: its samples, the newest first, put in order. -/
import Derived.Test.YteemglgbhdpodaaG3
namespace Go.Proofs.Yteemglgbhdpodaa
set_option linter.unusedSimpArgs false
set_option linter.unusedVariables false
set_option maxRecDepth 100000
open Go.RowKit
attribute [local go_sem] toldUpon_value toldUpon_skip toldUpon_enter

/-- the call's own row of samples -/
def OwnS (w : World) (base : Nat) (A : Option Addr) (n c : Nat) (ss : List Smp) : Prop := w.ownsRow base 56 4 (.slice A n c) n (ss.flatMap sc)
theorem OwnS.nil (w : World) (base : Nat) : OwnS w base none 0 0 [] := World.ownsRow_nil w base _ 4
theorem OwnS.len {w : World} {base : Nat} {A : Option Addr} {n c : Nat} {ss : List Smp} (h : OwnS w base A n c ss) : ss.length = n := by have := h.1; rw [sc_len] at this; omega
theorem OwnS.below {w w' : World} {base : Nat} {A : Option Addr} {n c : Nat} {ss : List Smp} (h : OwnS w base A n c ss) (hb : Below w.heap.size w w') : OwnS w' base A n c ss := by
  refine ⟨h.1, ?_⟩
  rcases h.2 with hn | ⟨g, cap, cur, h1, hg, hh, rest⟩
  · exact .inl hn
  · exact .inr ⟨g, cap, cur, h1, hg, (hb.block g (Array.getElem?_eq_some_iff.1 hh).1).trans hh, rest⟩
/-- a slice that begins a block of samples -/
def RS (w : World) (base : Nat) (A : Option Addr) (n : Nat) (ss : List Smp) : Prop := ss.length = n ∧ ((A = none ∧ n = 0) ∨ ∃ g, A = some ⟨g, 0, none⟩ ∧ base ≤ g ∧ SB w g ss)
theorem OwnS.rs {w : World} {base : Nat} {A : Option Addr} {n c : Nat} {ss : List Smp} (h : OwnS w base A n c ss) : RS w base A n ss ∧ n ≤ c := by
  have hl := h.len
  rcases h.2 with ⟨h1, h2⟩ | ⟨g, cap, cur, h1, hg, hh, hnc, _, _, ht⟩
  · simp only [Value.slice.injEq] at h1
    exact ⟨⟨hl, .inl ⟨h1.1, h1.2.1⟩⟩, by omega⟩
  · simp only [Value.slice.injEq] at h1
    obtain ⟨rfl, _, rfl⟩ := h1
    refine ⟨⟨hl, .inr ⟨g, rfl, hg, cur.toList.drop (n * 4), ?_⟩⟩, hnc⟩
    rw [← ht, List.take_append_drop]
    exact hh
theorem info_s : (Try.prog.info? 56).map (fun i => (i.zero, i.size, i.bytes)) = some (some (.agg #[.int .i64 0, .int .i64 0, .int .i64 0, .int .i64 0]), 4, 32) := by kernel_rfl
section
variable {P : Program} (w : World)
theorem wpList_append_s {ops : Array Oper} {rest : List Oper} {o : Oper} {a : Act} {Q : Exit → Act → World → Prop} (hgd : o.guard = none) (s x : Operand) (t : TypeId)
    (ho : o.op = .call { callee := .builtin .append, args := #[s, x], argTypes := #[t, t] })
    (base : Nat) (i : TypeInfo) (z : Value) (ht : P.underlying t = some (.slice 56)) (hi : P.info? 56 = some i) (hz : i.zero = some z)
    (hsize : i.size = 4) (hby : i.bytes = 32) (hzs : z.cells.size = 4)
    (A : Option Addr) (n c : Nat) (ss : List Smp) (hs : a.eval s = .slice A n c) (hown : OwnS w base A n c ss) (g d : Nat) (y : Smp) (hx : a.eval x = .slice (some ⟨g, 0, none⟩) 1 d) (hr : Bk w g 56 (sc y).toArray)
    (hn : n ≤ 1000) (hbase : base ≤ w.heap.size)
    (h : ∀ A' c' w', OwnS w' base A' (n + 1) c' (ss ++ [y]) → Below base w w' → w.heap.size ≤ w'.heap.size → wpList P ops Q rest (a.put o.dst (.slice A' (n + 1) c')) w') : wpList P ops Q (o :: rest) a w :=
  wpList_plain hgd fun K hK => by
    obtain ⟨v', w', hrun, h2, h3, _, _⟩ := run_append_own_at (P := P) w base t o.type 56 i z 4 32 ht hi hz hsize hby hzs (by omega) (.slice A n c) n (ss.flatMap sc) hown ⟨g, 0, none⟩ 1 d (sc y) rfl (fun j u hu => by
      rw [ad_plain, hr.cell j, List.getElem?_toArray]; exact hu) (by simp [sc, Value.oneCell']) (by unfold maxLen; omega) (by omega) hbase
    have shape : ∃ A' c', v' = .slice A' (n + 1) c' := by
      rcases h2.2 with ⟨h1, h2⟩ | ⟨g, cap, cur, h1, _⟩
      · exact ⟨none, 0, by rw [h1, h2]⟩
      · exact ⟨_, _, h1⟩
    obtain ⟨A', c', rfl⟩ := shape
    unfold Oper.wp execOp
    simp only [ho, resolve, invoke, builtin, Sem.run_bind, Sem.run_pure, Result.andThen_ok, List.map_toArray, List.map_cons, List.map_nil, hs, hx, hrun]
    exact hK _ _ (h A' c' w' (by unfold OwnS; rw [List.flatMap_append]; simpa using h2) ((Below.refl _ _).grown h3 hbase (fun g hg => ((World.ownsRow.lt hown) g hg).1)) h3.size)
end
theorem isort_nil (w : World) (f : Value) : Calls Try.prog 110 #[.slice none 0 0, .int .i64 0, .int .i64 0, f] w fun e w' => e = .returned (.tuple #[]) ∧ w = w' := by
  go_enter Try.func110, Try.ntmps110
  go_wp2_with fail
  go_loopw [8] (fun i wr => i = .int .i64 1 ∧ w = wr) (fun _ _ => 0)
  case atStart => exact ⟨rfl, rfl⟩
  case round =>
    obtain ⟨rfl, rfl⟩ := hrel
    go_wp2_with fail
    go_end0
    exact ⟨rfl, rfl⟩
/-- what a sort of a row leaves -/
def SRT (now : Int) (base b : Nat) (A : Option Addr) (n : Nat) (ss : List Smp) (w : World) (e : Ending) (w' : World) : Prop := e = .returned (.tuple #[]) ∧ RS w' base A n (isn now ss (n - 1)) ∧ Below base w w' ∧ w'.cell? ⟨b, 0, none⟩ = some (.int .i64 now) ∧ w.heap.size ≤ w'.heap.size
theorem stable_any (w : World) {base b n c : Nat} {A : Option Addr} {ss : List Smp} (now : Int) (h : RS w base A n ss) (hn : n ≤ 8) (hb : b < w.heap.size) (hbb : b < base) (hc : w.cell? ⟨b, 0, none⟩ = some (.int .i64 now)) (hBw : base ≤ w.heap.size) (hA : A = none → c = 0) :
    Calls Try.prog 94 #[.slice A n c, .int .i64 (n : Int), .func (.func 79) #[] #[.pointer (some ⟨b, 0, none⟩)]] w (SRT now base b A n ss w) := by
  have hI : Calls Try.prog 110 #[.slice A n c, .int .i64 0, .int .i64 (n : Int), .func (.func 79) #[] #[.pointer (some ⟨b, 0, none⟩)]] w (SRT now base b A n ss w) := by
    obtain ⟨hl, h⟩ := h
    rcases h with ⟨rfl, rfl⟩ | ⟨g, rfl, hg, hsb⟩
    · rw [hA rfl]
      refine (isort_nil w _).mono ?_
      rintro e w' ⟨rfl, rfl⟩
      exact ⟨rfl, ⟨hl, .inl ⟨rfl, rfl⟩⟩, Below.refl _ _, hc, Nat.le_refl _⟩
    · subst hl
      refine (isort_any w (B := base) (c := c) now hsb hg hBw hn (by omega) hb hc).mono ?_
      rintro e w' ⟨rfl, h1, h2, h3, h4⟩
      exact ⟨rfl, ⟨by rw [isn_len], .inr ⟨g, rfl, hg, h1⟩⟩, h2, h3, h4⟩
  have l1 : ¬ (20 : Int) ≤ (n : Int) := by omega
  have l2 : ¬ (20 : Int) < (n : Int) := by omega
  clear h hA hc
  go_enter Try.func94, Try.ntmps94
  go_wp2_with fail
  refine wp_loop_rounds 1 ?_
  rw [rounds_succ]
  go_wp2_with (go_at_call 110; refine hI.mono ?_; rintro e w1 ⟨rfl, h1, h2, h3, h4⟩)
  refine wp_loop_rounds 1 ?_
  rw [rounds_succ]
  go_wp2_with fail
  go_end0
  exact ⟨rfl, h1, h2, h3, h4⟩
theorem sort_any (w : World) {base b n c : Nat} {A : Option Addr} {ss : List Smp} (now : Int) (h : RS w base A n ss) (hn : n ≤ 8) (hb : b < w.heap.size) (hbb : b < base) (hc : w.cell? ⟨b, 0, none⟩ = some (.int .i64 now)) (hBw : base ≤ w.heap.size) (hA : A = none → c = 0) :
    Calls Try.prog 78 #[.slice A n c, .func (.func 79) #[] #[.pointer (some ⟨b, 0, none⟩)]] w (SRT now base b A n ss w) := by
  have hS := stable_any w now h hn hb hbb hc hBw hA
  clear h hA hc
  go_enter Try.func78, Try.ntmps78
  go_wp2_with (go_at_call 94; refine hS.mono ?_; rintro e w1 ⟨rfl, h1, h2, h3, h4⟩)
  go_end0
  exact ⟨rfl, h1, h2, h3, h4⟩
/-- the samples of a ring, the newest first -/
def newest (R : List Smp) (n : Nat) : List Smp := (List.range (min n 8)).map fun i => rg R ((n - 1 - i) % 8)
theorem newest_len (R : List Smp) (n : Nat) : (newest R n).length = min n 8 := by simp [newest]
def rowN (R : List Smp) (n : Nat) (now : Int) : List Smp := isn now (newest R n) (min n 8 - 1)
theorem rowN_len (R : List Smp) (n : Nat) (now : Int) : (rowN R n now).length = min n 8 := by unfold rowN; rw [isn_len, newest_len]
def GSB (s : Smp) : GFact := fun v w => ∃ g, v = .slice (some ⟨g, 0, none⟩) 1 1 ∧ Bk w g 56 (sc s).toArray
theorem GSB.stays (s : Smp) : Stays (GSB s) := fun _ _ _ hb ⟨g, e, h⟩ => ⟨g, e, h.below hb h.lt⟩
def ROW (ss : List Smp) (w : World) (e : Ending) (w' : World) : Prop := ∃ A c, e = .returned (.slice A ss.length c) ∧ (RS w' w.heap.size A ss.length ss ∧ ss.length ≤ c) ∧ Below w.heap.size w w'
set_option maxHeartbeats 2000000 in
theorem row_any (w : World) {g n : Nat} {R : List Smp} (now : Int) (h : FB w g R n) (hn : n < 1000000) : Calls Try.prog 55 #[.pointer (some ⟨g, 0, none⟩), .int .i64 now] w (ROW (rowN R n now) w) := by
  have hL := fun w' (hb : Below w.heap.size w w') => len_any w' (h.below hb) (by omega)
  obtain ⟨i0, hi0, hz0, hz1, hz2⟩ := info_parts info_s
  have hsg := h.1.lt
  obtain ⟨m, hm⟩ : ∃ m, min n 8 = m := ⟨_, rfl⟩
  have hm8 : m ≤ 8 := by omega
  have hmn : m ≤ n := by omega
  rw [hm] at hL
  have HROW := Lib.hid (And.intro (rowN_len R n now) (show rowN R n now = isn now (newest R n) (m - 1) by unfold rowN; rw [hm]))
  rw [hm] at HROW
  go_enter Try.func55, Try.ntmps55
  obtain ⟨w1, hw1⟩ : ∃ w1, w.alloc (.cells #[.int .i64 now] 2) = w1 := ⟨_, rfl⟩
  have hbk : Bk w1 w.heap.size 2 #[.int .i64 now] := by rw [← hw1]; exact Bk.new w _ _
  have hb1 : Below w.heap.size w w1 := by rw [← hw1]; exact (Below.refl _ _).alloc (Nat.le_refl _) _
  have hz : w1.heap.size = w.heap.size + 1 := by rw [← hw1]; simp
  go_upto_region 1 with (fail)
  clear hw1
  have hL1 := hL w1 hb1
  go_wp2_with (go_at_call 77; refine hL1.mono ?_; rintro e w2 ⟨rfl, rfl⟩)
  go_loopw [5, 9] (fun u i wr => ∃ (t : Nat) (A : Option Addr) (c : Nat), t ≤ m ∧ i = .int .i64 (t : Int) ∧ u = .slice A t c ∧ OwnS wr (w.heap.size + 1) A t c ((newest R n).take t) ∧ Below w1.heap.size w1 wr) (fun _ i _ => m - (intOf i).toNat)
  case atStart => exact ⟨0, none, 0, Nat.zero_le _, rfl, rfl, OwnS.nil _ _, Below.refl _ _⟩
  case round =>
    obtain ⟨t, A, c, ht, rfl, rfl, ho, hbel⟩ := hrel
    have hsr := hbel.size
    by_cases hlt : t < m
    · have f1 := (h.below hb1).below hbel
      obtain ⟨j, hj⟩ : ∃ j, (n - 1 - t) % 8 = j := ⟨_, rfl⟩
      have hj8 : j < 8 := by omega
      have HN := Lib.hid (show (newest R n).take t ++ [rg R j] = (newest R n).take (t + 1) by
        rw [List.take_succ_eq_append_getElem (by rw [newest_len]; omega)]
        congr 2
        simp only [newest, List.getElem_map, List.getElem_range]
        rw [hj])
      have i1 : IntKind.i64.wrap ((n : Int) - 1) = (n : Int) - 1 := IntWalk.i64_in _ (by omega)
      have i2 : IntKind.i64.wrap ((n : Int) - 1 - (t : Int)) = ((n - 1 - t : Nat) : Int) := by rw [IntWalk.i64_in _ (by omega)]; omega
      have i3 : Int.tmod ((n - 1 - t : Nat) : Int) 8 = (j : Int) := by rw [Int.tmod_eq_emod_of_nonneg (by omega)]; omega
      have i4 : IntKind.i64.wrap ((t : Int) + 1) = (t : Int) + 1 := IntWalk.i64_in _ (by omega)
      have j0 : (0 : Int) ≤ (j : Int) := by omega
      have j1 : (j : Int) < 8 := by omega
      have a1 : (t : Int) < (m : Int) := by omega
      obtain ⟨c0, c1, c2, c3⟩ := fcs_at f1.2 n hj8
      rw [show 4 * j = j * 4 by omega] at c0 c1 c2 c3
      have C0 : ∀ w', Below wr.heap.size wr w' → w'.cell? ⟨g, j * 4, none⟩ = some (.int .i64 (rg R j).o) := fun w' h => ((f1.below h).1.cell _).trans c0
      have C1 : ∀ w', Below wr.heap.size wr w' → w'.cell? ⟨g, j * 4 + 1, none⟩ = some (.int .i64 (rg R j).d) := fun w' h => ((f1.below h).1.cell _).trans c1
      have C2 : ∀ w', Below wr.heap.size wr w' → w'.cell? ⟨g, j * 4 + 2, none⟩ = some (.int .i64 (rg R j).p) := fun w' h => ((f1.below h).1.cell _).trans c2
      have C3 : ∀ w', Below wr.heap.size wr w' → w'.cell? ⟨g, j * 4 + 3, none⟩ = some (.int .i64 (rg R j).a) := fun w' h => ((f1.below h).1.cell _).trans c3
      have C4 : ∀ w', Below wr.heap.size wr w' → w'.cell? ⟨g, 32, none⟩ = some (.int .i64 (n : Int)) := fun w' h => ((f1.below h).1.cell 32).trans (fcs_n f1.2 n)
      have HO := Lib.hid ho
      have HBEL := Lib.hid hbel
      clear hj ho hbel c0 c1 c2 c3 f1 hL hL1 h
      go_upto_region 5 with (fail)
      (refine region_told_tail 15 _ (by kernel_rfl) (by kernel_rfl) (by simp only [List.take_succ_cons, List.take_zero, putAll, Act.put, List.setIfInBounds_toArray, List.set_cons_zero, List.set_cons_succ, Nat.reduceAdd]; rfl) ?_; simp only [List.take_succ_cons, List.take_zero, List.drop_succ_cons, List.drop_zero])
      repeat (refine told_step (fun v _ => v = _) (Stays.eq _) (by intro y w' hw' hd; simp only [depsOf, updG, Region.binds, Nat.reduceAdd, Nat.reduceEqDiff, if_false, if_true, and_true, true_and, forall_const, Array.toList, GTrue] at hd; (try go_split_ands); unfold toldAt; go_simp; exact ⟨Below.refl _ _, rfl⟩) ?_)
      (refine told_step (GSB (rg R j)) (GSB.stays _) (by intro y w' hw' hd; simp only [depsOf, updG, Region.binds, Nat.reduceAdd, Nat.reduceEqDiff, if_false, if_true, and_true, true_and, forall_const, Array.toList, GTrue] at hd; (try go_split_ands); unfold toldAt; go_simp; exact ⟨(Below.refl _ _).alloc (Nat.le_refl _) _, _, rfl, Bk.new w' _ _⟩) ?_)
      (refine told_nil ?_; intro z w3 hw3 hd)
      have e0 : z 0 = .slice A t c := hd 0 (by decide)
      obtain ⟨g2, e14, b14⟩ : GSB (rg R j) (z 14) w3 := hd 14 (by decide)
      rw [e0, e14]
      clear hd e0 e14 C0 C1 C2 C3 C4
      have ho2 := HO.out.below hw3
      have HB2 := Lib.hid (HBEL.out.trans (hw3.mono hsr))
      have hs3 := HB2.out.size
      go_wp2_with (at_builtin; refine wpList_append_s _ rfl (.tmp 12) (.tmp 26) _ rfl (w.heap.size + 1) i0 _ Try.underlying117 hi0 hz0 hz1 hz2 rfl A t c ((newest R n).take t) rfl ho2 g2 1 (rg R j) rfl b14 (by omega) (by omega) ?_)
      intro A' c' w4 ho4 hb4 hs4
      rw [HN.out] at ho4
      have HF := Lib.hid (And.intro ho4 (HB2.out.trans (hb4.mono (by omega))))
      clear ho2 ho4 hb4 hw3 b14 HN HO HBEL
      go_wp2_with fail
      go_roundw
      case rel => exact ⟨t + 1, A', c', by omega, by go_num, rfl, HF.out⟩
      case measure => simp [intOf]; omega
    · obtain rfl : t = m := by omega
      have e1 : (newest R n).take t = newest R n := List.take_of_length_le (by rw [newest_len]; omega)
      rw [e1] at ho
      obtain ⟨hrs, hcap⟩ := ho.rs
      have hA : A = none → c = 0 := by
        rintro rfl
        rcases ho.2 with ⟨h1, h2⟩ | ⟨g2, cap, cur, h1, _⟩
        · simp only [Value.slice.injEq] at h1; exact h1.2.2
        · simp at h1
      have hcell : wr.cell? ⟨w.heap.size, 0, none⟩ = some (.int .i64 now) := (hbk.below hbel hbk.lt).cell 0
      have hS := sort_any wr now hrs hm8 (by omega) (by omega) hcell (by omega) hA
      have HB := Lib.hid (hb1.trans (hbel.mono (by omega)))
      clear e1 ho hrs hA hL hL1 hbel h hcell
      go_wp2_with (go_at_call 78; refine hS.mono ?_; rintro e w5 ⟨rfl, h1, h2, h3, h4⟩)
      go_ret
      rw [← HROW.out.2] at h1
      refine ⟨A, c, by rw [HROW.out.1]; rfl, ?_, HB.out.trans (h2.mono (by omega))⟩
      rw [HROW.out.1]
      obtain ⟨q1, q2⟩ := h1
      refine ⟨⟨q1, q2.imp id ?_⟩, hcap⟩
      rintro ⟨g2, e2, e3, e4⟩
      exact ⟨g2, e2, by omega, e4⟩
end Go.Proofs.Yteemglgbhdpodaa
