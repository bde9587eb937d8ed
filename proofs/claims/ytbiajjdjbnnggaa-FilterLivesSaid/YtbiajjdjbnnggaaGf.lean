/- What is put in leaves other filters as they were; equal lists; what was put in long ago. -/
import Derived.Test.YtbiajjdjbnnggaaGm
import Derived.Test.YtbiajjdjbnnggaaGe
namespace Go.Proofs.Ytbiajjdjbnnggaa
set_option linter.unusedSimpArgs false
set_option linter.unusedVariables false
set_option maxRecDepth 100000
open Go.RowKit
attribute [local go_sem] toldUpon_value toldUpon_skip toldUpon_enter

set_option maxHeartbeats 1000000 in
theorem add_far (w : World) {B g n : Nat} {R : List Smp} (s : Smp) (h : FB w g R n) (hB : B ≤ g) (hn : n < 1000000) : Calls Try.prog 15 #[.pointer (some ⟨g, 0, none⟩), sv s] w fun e w' => e = .returned (.int .i64 (if mayB s = true then 0 else 1)) ∧ FB w' g (if mayB s = true then R.set (n % 8) s else R) (if mayB s = true then n + 1 else n) ∧ Below B w w' ∧ w.heap.size ≤ w'.heap.size ∧ ∀ g' t' cs', Bk w g' t' cs' → g' ≠ g → Bk w' g' t' cs' := by
  have hM := fun w => may_any w s
  have hgs := h.1.lt
  by_cases hm : mayB s = true
  · rw [hm] at hM
    simp only [hm, if_true]
    obtain ⟨o, d, p, a⟩ := s
    unfold sv at hM ⊢
    clear hm
    have hfb := Lib.hid h
    clear h
    obtain ⟨j, hj⟩ : ∃ j, n % 8 = j := ⟨_, rfl⟩
    have hj8 : j < 8 := by omega
    have hjm : Int.tmod (n : Int) 8 = (j : Int) := by rw [Int.tmod_eq_emod_of_nonneg (by omega)]; omega
    have j0 : (0 : Int) ≤ (j : Int) := by omega
    have j1 : (j : Int) < 8 := by omega
    rw [hj]
    clear hj
    go_enter Try.func15, Try.ntmps15
    go_upto_region 5 with (go_at_call 31; refine (hM _).mono ?_; rintro e w1 ⟨rfl, hb1⟩; obtain ⟨B1, z1, bb1⟩ := box1 hb1)
    have f1 := (hfb.out).below bb1
    have C0 : ∀ w', Below w1.heap.size w1 w' → w'.cell? ⟨w.heap.size, 0, none⟩ = some (.int .i64 o) := fun w' h => (B1.below h z1).cell 0
    have C1 : ∀ w', Below w1.heap.size w1 w' → w'.cell? ⟨w.heap.size, 1, none⟩ = some (.int .i64 d) := fun w' h => (B1.below h z1).cell 1
    have C2 : ∀ w', Below w1.heap.size w1 w' → w'.cell? ⟨w.heap.size, 2, none⟩ = some (.int .i64 p) := fun w' h => (B1.below h z1).cell 2
    have C3 : ∀ w', Below w1.heap.size w1 w' → w'.cell? ⟨w.heap.size, 3, none⟩ = some (.int .i64 a) := fun w' h => (B1.below h z1).cell 3
    have C4 : ∀ w', Below w1.heap.size w1 w' → w'.cell? ⟨g, 32, none⟩ = some (.int .i64 (n : Int)) := fun w' h => ((f1.below h).1.cell 32).trans (fcs_n f1.2 n)
    have BB := Lib.hid bb1
    have hs := bb1.size
    have F1 := Lib.hid f1
    clear bb1 f1 hfb hM B1
    (refine region_told_tail 10 _ (by kernel_rfl) (by kernel_rfl) (by simp only [List.take_succ_cons, List.take_zero, putAll, Act.put, List.setIfInBounds_toArray, List.set_cons_zero, List.set_cons_succ, Nat.reduceAdd]; rfl) ?_; simp only [List.take_succ_cons, List.take_zero, List.drop_succ_cons, List.drop_zero])
    repeat (refine told_step (fun v _ => v = _) (Stays.eq _) (by intro y w' hw' hd; simp only [depsOf, updG, Region.binds, Nat.reduceAdd, Nat.reduceEqDiff, if_false, if_true, and_true, true_and, forall_const, Array.toList, GTrue] at hd; (try go_split_ands); unfold toldAt; go_simp; exact ⟨Below.refl _ _, rfl⟩) ?_)
    (refine told_nil ?_; intro y w2 hw2 hd)
    have e9 : y 9 = .pointer (some ⟨g, j * 4, none⟩) := hd 9 (by decide)
    have e6 : y 6 = .agg #[.int .i64 o, .int .i64 d, .int .i64 p, .int .i64 a] := hd 6 (by decide)
    rw [e9, e6]
    clear hd e9 e6 C0 C1 C2 C3 C4
    have f2 := F1.out.below hw2
    obtain ⟨c0, c1, c2, c3⟩ := fcs_at f2.2 n hj8
    replace c0 := (f2.1.cell (4 * j)).trans c0
    replace c1 := (f2.1.cell (4 * j + 1)).trans c1
    replace c2 := (f2.1.cell (4 * j + 2)).trans c2
    replace c3 := (f2.1.cell (4 * j + 3)).trans c3
    rw [show 4 * j = j * 4 by omega] at c0 c1 c2 c3
    have fz : ∀ o, w2.frozen? ⟨g, o, none⟩ = false := fun o => f2.1.frozen o
    have FF := Lib.hid f2
    have HW := Lib.hid (BB.out.trans (hw2.mono hs))
    have cn := (f2.1.cell 32).trans (fcs_n f2.2 n)
    have n4 : ¬ 32 = j * 4 ∧ ¬ 32 = j * 4 + 1 ∧ ¬ 32 = j * 4 + 2 ∧ ¬ 32 = j * 4 + 3 := by omega
    obtain ⟨n40, n41, n42, n43⟩ := n4
    have i1 : IntKind.i64.wrap ((n : Int) + 1) = (n : Int) + 1 := IntWalk.i64_in _ (by omega)
    clear f2 hw2
    go_wp2_with fail
    go_ret
    have hb := HW.out.mono (show 0 ≤ w.heap.size by omega)
    have k1 := (((FF.out.1.set (j * 4) (.int .i64 o)).set (j * 4 + 1) (.int .i64 d)).set (j * 4 + 2) (.int .i64 p)).set (j * 4 + 3) (.int .i64 a)
    rw [show j * 4 = 4 * j by omega, fcs_put FF.out.2 n hj8 ⟨o, d, p, a⟩, show 4 * j = j * 4 by omega] at k1
    have k2 := k1.set 32 (.int .i64 ((n : Int) + 1))
    rw [show ((n : Int) + 1) = ((n + 1 : Nat) : Int) by omega, fcs_inc (by rw [List.length_set]; exact FF.out.2)] at k2
    refine ⟨rfl, ⟨k2, by rw [List.length_set]; exact FF.out.2⟩, ?_, ?_, fun g' t' cs' hk hne => (((((hk.below HW.out hk.lt).far (p := ⟨g, j * 4, none⟩) hne _).far (p := ⟨g, j * 4 + 1, none⟩) hne _).far (p := ⟨g, j * 4 + 2, none⟩) hne _).far (p := ⟨g, j * 4 + 3, none⟩) hne _).far (p := ⟨g, 32, none⟩) hne _⟩
    · have b0 : Below B w w2 := by
        have := HW.out
        exact this.mono (by omega)
      exact ((((b0.setCell (p := ⟨g, j * 4, none⟩) hB _).setCell (p := ⟨g, j * 4 + 1, none⟩) hB _).setCell (p := ⟨g, j * 4 + 2, none⟩) hB _).setCell (p := ⟨g, j * 4 + 3, none⟩) hB _).setCell (p := ⟨g, 32, none⟩) hB _
    · simpa using HW.out.size
  · rw [show mayB s = false by simpa using hm] at hM
    simp only [hm, if_false, Bool.false_eq_true]
    obtain ⟨o, d, p, a⟩ := s
    unfold sv at hM ⊢
    clear hm
    have hfb := Lib.hid h
    clear h
    go_enter Try.func15, Try.ntmps15
    go_wp2_with (go_at_call 31; refine (hM _).mono ?_; rintro e w1 ⟨rfl, hb1⟩; obtain ⟨B1, z1, bb1⟩ := box1 hb1)
    go_ret
    exact ⟨rfl, hfb.out.below bb1, bb1.mono (by omega), bb1.size, fun g' t' cs' hk hne => hk.below bb1 hk.lt⟩

theorem neq_smp (w : World) (a b c d : Int) : (binOp .neq 27 (.agg #[.int .i64 a, .int .i64 b, .int .i64 c, .int .i64 d]) (.agg #[.int .i64 a, .int .i64 b, .int .i64 c, .int .i64 d])).run Try.prog w = .ok (.bool false) w := by
  have h := eql_smp w a b c d a b c d
  rw [run_eql_struct] at h
  rw [run_neq_struct]
  cases hh : (Op.equalIn 10000 27 (.agg #[.int .i64 a, .int .i64 b, .int .i64 c, .int .i64 d]) (.agg #[.int .i64 a, .int .i64 b, .int .i64 c, .int .i64 d])).run Try.prog w with
  | ok r w1 =>
    rw [hh] at h
    simp [Result.andThen] at h
    obtain ⟨h1, h2⟩ := h
    subst h1 h2
    rfl
  | halt x w1 => rw [hh] at h; simp [Result.andThen] at h
theorem neqg_smp (w : World) (x y : Operand) (a b c d a' b' c' d' : Int) : (eqGuard .neq 27 x y (.agg #[.int .i64 a, .int .i64 b, .int .i64 c, .int .i64 d]) (.agg #[.int .i64 a', .int .i64 b', .int .i64 c', .int .i64 d'])).run Try.prog w = .ok () w :=
  run_eqGuard_agg w _ _ _ _ _ _ (by kernel_rfl)
attribute [local go_sem] neq_smp neqg_smp
set_option maxHeartbeats 2000000 in
theorem same_any (w : World) {A A2 : Option Addr} {n c c2 : Nat} {ss : List Smp} {b1 b2 : Nat} (h1 : RS w b1 A n ss) (h2 : RS w b2 A2 n ss) (hn : n ≤ 8) : Calls Try.prog 16 #[.slice A n c, .slice A2 n c2] w fun e w' => e = .returned (.bool true) ∧ Below w.heap.size w w' := by
  have hl := h1.1
  go_enter Try.func16, Try.ntmps16
  go_wp2_with fail
  go_loopw [5] (fun i wr => ∃ (t : Nat), t ≤ n ∧ i = .int .i64 (t : Int) ∧ Below w.heap.size w wr) (fun i _ => n - (intOf i).toNat)
  case atStart => exact ⟨0, Nat.zero_le _, rfl, Below.refl _ _⟩
  case round =>
    obtain ⟨t, ht, rfl, hbel⟩ := hrel
    by_cases hlt : t < n
    · have a1 : (t : Int) < (n : Int) := by omega
      have a0 : (0 : Int) ≤ (t : Int) := by omega
      have i1 : IntKind.i64.wrap ((t : Int) + 1) = (t : Int) + 1 := IntWalk.i64_in _ (by omega)
      obtain ⟨g, rfl, hs1⟩ : ∃ g, A = some ⟨g, 0, none⟩ ∧ SB wr g ss := by
        rcases h1.2 with ⟨_, h⟩ | ⟨g, e, _, h⟩
        · omega
        · exact ⟨g, e, h.below hbel⟩
      obtain ⟨g2, rfl, hs2⟩ : ∃ g, A2 = some ⟨g, 0, none⟩ ∧ SB wr g ss := by
        rcases h2.2 with ⟨_, h⟩ | ⟨g, e, _, h⟩
        · omega
        · exact ⟨g, e, h.below hbel⟩
      have C0 : ∀ w', Below wr.heap.size wr w' → w'.cell? ⟨g, t * 4, none⟩ = some (.int .i64 (rg ss t).o) := fun w' h => ((hs1.below h).at (by omega)).1
      have C1 : ∀ w', Below wr.heap.size wr w' → w'.cell? ⟨g, t * 4 + 1, none⟩ = some (.int .i64 (rg ss t).d) := fun w' h => ((hs1.below h).at (by omega)).2.1
      have C2 : ∀ w', Below wr.heap.size wr w' → w'.cell? ⟨g, t * 4 + 2, none⟩ = some (.int .i64 (rg ss t).p) := fun w' h => ((hs1.below h).at (by omega)).2.2.1
      have C3 : ∀ w', Below wr.heap.size wr w' → w'.cell? ⟨g, t * 4 + 3, none⟩ = some (.int .i64 (rg ss t).a) := fun w' h => ((hs1.below h).at (by omega)).2.2.2
      have D0 : ∀ w', Below wr.heap.size wr w' → w'.cell? ⟨g2, t * 4, none⟩ = some (.int .i64 (rg ss t).o) := fun w' h => ((hs2.below h).at (by omega)).1
      have D1 : ∀ w', Below wr.heap.size wr w' → w'.cell? ⟨g2, t * 4 + 1, none⟩ = some (.int .i64 (rg ss t).d) := fun w' h => ((hs2.below h).at (by omega)).2.1
      have D2 : ∀ w', Below wr.heap.size wr w' → w'.cell? ⟨g2, t * 4 + 2, none⟩ = some (.int .i64 (rg ss t).p) := fun w' h => ((hs2.below h).at (by omega)).2.2.1
      have D3 : ∀ w', Below wr.heap.size wr w' → w'.cell? ⟨g2, t * 4 + 3, none⟩ = some (.int .i64 (rg ss t).a) := fun w' h => ((hs2.below h).at (by omega)).2.2.2
      have HB := Lib.hid hbel
      have hsz := hbel.size
      generalize rg ss t = s at C0 C1 C2 C3 D0 D1 D2 D3
      obtain ⟨xo, xd, xp, xa⟩ := s
      clear h1 h2 hs1 hs2 hbel
      go_upto_region 6 with (fail)
      (refine region_told _ (by kernel_rfl) (by kernel_rfl) (by simp only [putAll, Act.put, List.setIfInBounds_toArray, List.set_cons_zero, List.set_cons_succ, Nat.reduceAdd]; rfl) ?_)
      repeat (refine told_step (fun v _ => v = _) (Stays.eq _) (by intro y w' hw' hd; simp only [depsOf, updG, Region.binds, Nat.reduceAdd, Nat.reduceEqDiff, if_false, if_true, and_true, true_and, forall_const, Array.toList, GTrue] at hd; (try go_split_ands); unfold toldAt; go_simp; exact ⟨Below.refl _ _, rfl⟩) ?_)
      (refine told_nil ?_; intro y w3 hw3 hd)
      have H8 : y 8 = .bool false := hd 8 (by decide)
      rw [H8]
      clear hd H8 C0 C1 C2 C3 D0 D1 D2 D3
      have HW := Lib.hid (HB.out.trans (hw3.mono hsz))
      clear hw3
      go_wp2_with fail
      go_roundw
      case rel => exact ⟨t + 1, by omega, by go_num, HW.out⟩
      case measure => simp [intOf]; omega
    · obtain rfl : t = n := by omega
      have a1 : ¬ (t : Int) < (t : Int) := by omega
      have HB := Lib.hid hbel
      clear h1 h2 hbel
      go_wp2_with fail
      go_ret
      exact ⟨rfl, HB.out⟩
/-- the newest ones with one more -/
def nw (L : List Smp) (s : Smp) : List Smp := if mayB s = true then (s :: L).take 8 else L
theorem rg_get {L : List Smp} {i : Nat} (h : i < L.length) : L[i] = rg L i := by
  unfold rg; rw [List.getD_eq_getElem?_getD, List.getElem?_eq_getElem h]; rfl
theorem newest_rg (R : List Smp) (n : Nat) {i : Nat} (h : i < min n 8) : rg (newest R n) i = rg R ((n - 1 - i) % 8) := by
  rw [← rg_get (by rw [newest_len]; exact h)]; simp [newest]
theorem newest_add (S : List Smp × Nat) (s : Smp) (h : S.1.length = 8) : newest (addN S s).1 (addN S s).2 = nw (newest S.1 S.2) s := by
  obtain ⟨R, n⟩ := S
  unfold addN nw
  by_cases hm : mayB s = true
  · simp only [hm, if_true]
    replace h : R.length = 8 := h
    apply List.ext_getElem
    · simp [newest_len]; omega
    · intro i h1 h2
      rw [rg_get, newest_rg _ _ (by rw [newest_len] at h1; exact h1), List.getElem_take]
      rw [newest_len] at h1
      rw [rg_set (by omega)]
      cases i with
      | zero => rw [if_pos (by omega)]; rfl
      | succ i =>
        rw [if_neg (by omega), List.getElem_cons_succ, rg_get, newest_rg _ _ (by omega)]
        congr 2; omega
  · rw [if_neg hm, if_neg hm, if_neg hm]
theorem addN_len (S : List Smp × Nat) (s : Smp) (h : S.1.length = 8) : (addN S s).1.length = 8 := by
  unfold addN; split <;> simp [h]
theorem fold_len : ∀ (ss : List Smp) (S : List Smp × Nat), S.1.length = 8 → (ss.foldl addN S).1.length = 8
  | [], _, h => h
  | s :: ss, S, h => fold_len ss _ (addN_len S s h)
theorem newest_fold : ∀ (ss : List Smp) (S : List Smp × Nat), S.1.length = 8 → newest (ss.foldl addN S).1 (ss.foldl addN S).2 = ss.foldl nw (newest S.1 S.2)
  | [], _, _ => rfl
  | s :: ss, S, h => by
    rw [List.foldl_cons, newest_fold ss _ (addN_len S s h), newest_add S s h]; rfl
theorem nw_le {L : List Smp} (h : L.length ≤ 8) (s : Smp) : (nw L s).length ≤ 8 := by
  unfold nw; split
  · rw [List.length_take]; omega
  · exact h
theorem fold_nw : ∀ (ss L : List Smp), L.length ≤ 8 → ss.foldl nw L = ((ss.filter mayB).reverse ++ L).take 8
  | [], L, h => by simp [List.take_of_length_le h]
  | s :: ss, L, h => by
    rw [List.foldl_cons, fold_nw ss _ (nw_le h s)]
    unfold nw
    by_cases hm : mayB s = true
    · rw [if_pos hm, List.filter_cons_of_pos hm, List.reverse_cons, List.append_assoc]
      simp only [List.take_append, List.take_take, List.singleton_append]
      rw [Nat.min_eq_left (Nat.sub_le _ _)]
    · rw [if_neg hm, List.filter_cons_of_neg hm]
/-- what was put in long ago plays no part -/
theorem forget (ss : List Smp) (S T : List Smp × Nat) (hS : S.1.length = 8) (hT : T.1.length = 8) (hc : 8 ≤ (ss.filter mayB).length) :
    newest (ss.foldl addN S).1 (ss.foldl addN S).2 = newest (ss.foldl addN T).1 (ss.foldl addN T).2 ∧ min (ss.foldl addN S).2 8 = 8 ∧ min (ss.foldl addN T).2 8 = 8 := by
  have e : ∀ U : List Smp × Nat, U.1.length = 8 → newest (ss.foldl addN U).1 (ss.foldl addN U).2 = (ss.filter mayB).reverse.take 8 := fun U hU => by
    rw [newest_fold ss U hU, fold_nw ss _ (by rw [newest_len]; omega), List.take_append_of_le_length (by simpa using hc)]
  refine ⟨(e S hS).trans (e T hT).symm, ?_, ?_⟩
  · rw [← newest_len (ss.foldl addN S).1, e S hS, List.length_take, List.length_reverse]; omega
  · rw [← newest_len (ss.foldl addN T).1, e T hT, List.length_take, List.length_reverse]; omega
end Go.Proofs.Ytbiajjdjbnnggaa
