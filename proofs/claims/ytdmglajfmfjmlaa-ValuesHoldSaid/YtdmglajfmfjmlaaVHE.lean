/- Texts of this claim, joined: what its laws use. -/
import Derived.Test.YtdmglajfmfjmlaaVHD
import Derived.Deep.Cut
import Derived.Deep.MidRow
import Derived.RegionTactic
import Derived.ChangeAlike
import Derived.Maps.OwnSet
import Derived.Laws.CopyOwn
import Derived.Laws.MakeOwn
import Derived.ProofKit
import Derived.OpenShut
import Derived.ShutString
import Derived.ChangeOld
import Derived.Below
import Derived.Lib.SmallJoins
import Derived.LaidMore
import Derived.WalkKit
import Derived.ChangeSlices
namespace Go.Proofs.Ytdmglajfmfjmlaa
set_option linter.unusedSimpArgs false
set_option linter.unusedVariables false
set_option maxRecDepth 100000
open Go.RowKit
attribute [local go_sem] toldUpon_value toldUpon_skip toldUpon_enter
structure Vl where
  ts : Nat
  fs : Nat
  A : Option Addr
  n : Nat
  c : Nat
  ds : List Nat
  B : Option Addr
  m : Nat
  d : Nat
  ss : List Nat
def vv (v : Vl) : Value := .agg #[.int .u32 (v.ts : Int), .int .u32 (v.fs : Int), .slice v.A v.n v.c, .slice v.B v.m v.d]
def same (v v' : Vl) : Prop := v.ts = v'.ts ∧ v.fs = v'.fs ∧ v.ds = v'.ds ∧ v.ss = v'.ss ∧ v.n = v'.n ∧ v.m = v'.m
theorem same.rfl' (v : Vl) : same v v := ⟨rfl, rfl, rfl, rfl, rfl, rfl⟩
theorem same.trans {a b c : Vl} (h : same a b) (h' : same b c) : same a c := by
  obtain ⟨h1, h2, h3, h4, h5, h6⟩ := h
  obtain ⟨k1, k2, k3, k4, k5, k6⟩ := h'
  exact ⟨h1.trans k1, h2.trans k2, h3.trans k3, h4.trans k4, h5.trans k5, h6.trans k6⟩
theorem same.symm {a b : Vl} (h : same a b) : same b a := by
  obtain ⟨h1, h2, h3, h4, h5, h6⟩ := h
  exact ⟨h1.symm, h2.symm, h3.symm, h4.symm, h5.symm, h6.symm⟩
def VR (w : World) (v : Vl) : Prop := Rd .u8 w v.A v.n v.c v.ds ∧ Rd .u8 w v.B v.m v.d v.ss ∧ v.ts < 4294967296 ∧ v.fs < 4294967296 ∧ (∀ x ∈ v.ds, x < 256) ∧ (∀ x ∈ v.ss, x < 256)
theorem VR.below {w w' : World} {v : Vl} (h : VR w v) (hb : Below w.heap.size w w') : VR w' v := ⟨h.1.below hb, h.2.1.below hb, h.2.2⟩
def VO (w : World) (base : Nat) (v : Vl) : Prop := Own .u8 5 w base v.A v.n v.c v.ds ∧ Own .u8 5 w base v.B v.m v.d v.ss
theorem VO.below {w w' : World} {base : Nat} {v : Vl} (h : VO w base v) (hb : Below w.heap.size w w') : VO w' base v := ⟨h.1.below hb, h.2.below hb⟩
theorem VO.lower {w : World} {base b' : Nat} {v : Vl} (h : VO w base v) (hb : b' ≤ base) : VO w b' v := ⟨h.1.lower hb, h.2.lower hb⟩
def newB (a b : Vl) : Bool := decide (b.fs < a.fs) || (decide (a.fs = b.fs) && decide (b.ts < a.ts))
set_option maxHeartbeats 1000000 in
theorem newer_any (w : World) (a b : Vl) : Calls Try.prog 117 #[vv a, vv b] w fun e w' => e = .returned (.bool (newB a b)) ∧ Below w.heap.size w w' := by
  have H := Lib.hid (show newB a b = (decide (b.fs < a.fs) || (decide (a.fs = b.fs) && decide (b.ts < a.ts))) from rfl)
  obtain ⟨ts, fs, A, n, c, ds, B, m, d, ss⟩ := a
  obtain ⟨ts', fs', A', n', c', ds', B', m', d', ss'⟩ := b
  unfold vv
  replace H := Lib.hid (H.out.trans (show _ = (decide (fs' < fs) || (decide (fs = fs') && decide (ts' < ts))) from rfl))
  by_cases h1 : fs' < fs
  · have t1 : (fs' : Int) < (fs : Int) := by omega
    have HR := Lib.hid (H.out.trans (show _ = true by simp [h1]))
    clear h1 H
    go_enter Try.func117, Try.ntmps117
    go_wp2_with fail
    go_ret
    exact ⟨by rw [HR.out]; rfl, ((Below.refl _ _).alloc (Nat.le_refl _) _).alloc (by simp) _⟩
  · have t1 : ¬ (fs' : Int) < (fs : Int) := by omega
    by_cases h2 : fs = fs'
    · subst h2
      have t2 : ((fs : Int) == (fs : Int)) = true := by simp
      by_cases h3 : ts' < ts
      · have t3 : (ts' : Int) < (ts : Int) := by omega
        have HR := Lib.hid (H.out.trans (show _ = true by simp [h3]))
        clear h1 h3 H
        go_enter Try.func117, Try.ntmps117
        go_wp2_with fail
        go_ret
        exact ⟨by rw [HR.out]; rfl, ((Below.refl _ _).alloc (Nat.le_refl _) _).alloc (by simp) _⟩
      · have t3 : ¬ (ts' : Int) < (ts : Int) := by omega
        have HR := Lib.hid (H.out.trans (show _ = false by simp [h3]))
        clear h1 h3 H
        go_enter Try.func117, Try.ntmps117
        go_wp2_with fail
        go_ret
        exact ⟨by rw [HR.out]; rfl, ((Below.refl _ _).alloc (Nat.le_refl _) _).alloc (by simp) _⟩
    · have t2 : ((fs : Int) == (fs' : Int)) = false := by simp; omega
      have HR := Lib.hid (H.out.trans (show _ = false by simp [h1, h2]))
      clear h1 h2 H
      go_enter Try.func117, Try.ntmps117
      go_wp2_with fail
      go_ret
      exact ⟨by rw [HR.out]; rfl, ((Below.refl _ _).alloc (Nat.le_refl _) _).alloc (by simp) _⟩
theorem info_u8 : (Try.prog.info? 5).map (fun i => (i.zero, i.size, i.bytes)) = some (some (.int .u8 0), 1, 1) := by kernel_rfl
set_option maxHeartbeats 1000000 in
theorem clone_any (w : World) {A : Option Addr} {n c : Nat} {xs : List Nat} (h : Rd .u8 w A n c xs) (hn : n ≤ 140737488355328) :
    Calls Try.prog 64 #[.slice A n c] w fun e w' => ∃ A' c', e = .returned (.slice A' n c') ∧ Own .u8 5 w' w.heap.size A' n c' xs ∧ Below w.heap.size w w' := by
  obtain ⟨i0, hi0, hz0, hz1, hz2⟩ := info_parts info_u8
  have HR := Lib.hid h
  have q0 := fun (w : World) (a : Option Addr) (n c : Nat) => Lib.run_eql_slice_nil (P := Try.prog) w _ _ a n c 0 0 Try.underlying22
  rcases A with _ | ad
  · obtain rfl : n = 0 := by
      rcases Nat.eq_zero_or_pos n with h0 | h0
      · exact h0
      · obtain ⟨ad, h1, _⟩ := h.form h0; cases h1
    obtain rfl : xs = [] := List.eq_nil_of_length_eq_zero h.len
    clear h
    go_enter Try.func64, Try.ntmps64
    go_wp2_with fail
    go_ret
    exact ⟨none, 0, rfl, Own.nil _ _ _ _, Below.refl _ _⟩
  · clear h
    go_enter Try.func64, Try.ntmps64
    go_upto_region 3 with (fail)
    have ho : Own .u8 5 (w.alloc (.cells #[] 5)) w.heap.size (some ⟨w.heap.size, 0, none⟩) 0 0 [] := Own.of_bk (Bk.new w _ _) (Nat.le_refl _) rfl (by omega)
    go_wp2_with (at_builtin; refine wpList_append_rd _ rfl (.tmp 5) (.tmp 6) _ rfl .u8 w.heap.size _ i0 _ 1 Try.underlying22 hi0 hz0 hz1 hz2 rfl (some ⟨w.heap.size, 0, none⟩) 0 0 [] rfl ho (some ad) n c xs rfl (HR.out.alloc _) (by unfold maxLen; omega) (by omega) (by simp) ?_)
    intro A' c' w4 ho4 hb4 hs4 hk4
    go_wp2_with fail
    go_ret
    exact ⟨A', c', rfl, ho4, ((Below.refl _ _).alloc (Nat.le_refl _) _).trans hb4⟩
theorem Own.low {k : IntKind} {e : TypeId} {w : World} {base n c : Nat} {A : Option Addr} {xs : List Nat} (h : Own k e w base A n c xs) {p : Addr} (hp : p.block < base) (u : Value) : Own k e (w.setCell p u) base A n c xs := by
  refine ⟨h.1, ?_⟩
  rcases h.2 with hn | ⟨g, cap, cur, h1, hg, hh, rest⟩
  · exact .inl hn
  · exact .inr ⟨g, cap, cur, h1, hg, (Below.heap_setCell w p u g (by omega)).trans hh, rest⟩
def GOwn (base n : Nat) (xs : List Nat) : GFact := fun v w => ∃ A c, v = .slice A n c ∧ Own .u8 5 w base A n c xs
theorem GOwn.stays (base n : Nat) (xs : List Nat) : Stays (GOwn base n xs) := fun _ _ _ hb ⟨A, c, e, h⟩ => ⟨A, c, e, h.below hb⟩
set_option maxHeartbeats 2000000 in
theorem copied_any (w : World) (v : Vl) (h : VR w v) (hn : v.n ≤ 140737488355328) (hm : v.m ≤ 140737488355328) :
    Calls Try.prog 85 #[vv v] w fun e w' => ∃ v', e = .returned (vv v') ∧ same v v' ∧ VO w' w.heap.size v' ∧ Below w.heap.size w w' := by
  obtain ⟨ts, fs, A, n, c, ds, B, m, d, ss⟩ := v
  have hA : Rd .u8 w A n c ds := h.1
  have hB : Rd .u8 w B m d ss := h.2.1
  replace hn : n ≤ 140737488355328 := hn
  replace hm : m ≤ 140737488355328 := hm
  clear h
  unfold vv
  go_enter Try.func85, Try.ntmps85
  go_upto_region 1 with (fail)
  obtain ⟨w1, hw1⟩ : ∃ x, (w.alloc (.cells #[.int .u32 (ts : Int), .int .u32 (fs : Int), .slice A n c, .slice B m d] 66)).alloc (.cells #[.int .u32 0, .int .u32 0, .slice none 0 0, .slice none 0 0] 66) = x := ⟨_, rfl⟩
  have hb1 : Below w.heap.size w w1 := by rw [← hw1]; exact ((Below.refl _ _).alloc (Nat.le_refl _) _).alloc (by simp) _
  have k1 : Bk w1 w.heap.size 66 #[.int .u32 (ts : Int), .int .u32 (fs : Int), .slice A n c, .slice B m d] := by rw [← hw1]; exact (Bk.new w _ _).alloc _
  have k2 : Bk w1 (w.heap.size + 1) 66 #[.int .u32 0, .int .u32 0, .slice none 0 0, .slice none 0 0] := by rw [← hw1]; exact Bk.at_new _ _ (by simp)
  have hz : w1.heap.size = w.heap.size + 1 + 1 := by rw [← hw1]; simp
  rw [hw1]
  clear hw1
  have C2 : ∀ w', Below w1.heap.size w1 w' → w'.cell? ⟨w.heap.size, 2, none⟩ = some (.slice A n c) := fun w' h => (k1.below h k1.lt).cell 2
  have C3 : ∀ w', Below w1.heap.size w1 w' → w'.cell? ⟨w.heap.size, 3, none⟩ = some (.slice B m d) := fun w' h => (k1.below h k1.lt).cell 3
  have HA := fun w' (h : Below w1.heap.size w1 w') => clone_any w' (hA.below (hb1.trans (h.mono hb1.size))) hn
  have HB := fun w' (h : Below w1.heap.size w1 w') => clone_any w' (hB.below (hb1.trans (h.mono hb1.size))) hm
  have K1 := Lib.hid k1
  have K2 := Lib.hid k2
  have HZ := Lib.hid hz
  have HW := Lib.hid hb1
  clear hA hB hb1 k1 k2 hz
  (refine region_told_tail 7 _ (by kernel_rfl) (by kernel_rfl) (by simp only [List.take_succ_cons, List.take_zero, putAll, Act.put, List.setIfInBounds_toArray, List.set_cons_zero, List.set_cons_succ, Nat.reduceAdd]; rfl) ?_; simp only [List.take_succ_cons, List.take_zero, List.drop_succ_cons, List.drop_zero])
  iterate 2 (refine told_step (fun v _ => v = _) (Stays.eq _) (by intro y w' hw' hd; simp only [depsOf, updG, Region.binds, Nat.reduceAdd, Nat.reduceEqDiff, if_false, if_true, and_true, true_and, forall_const, Array.toList, GTrue] at hd; (try go_split_ands); unfold toldAt; go_simp; exact ⟨Below.refl _ _, rfl⟩) ?_)
  (refine told_step (GOwn w1.heap.size n ds) (GOwn.stays _ _ _) (by intro y w' hw' hd; simp only [depsOf, updG, Region.binds, Nat.reduceAdd, Nat.reduceEqDiff, if_false, if_true, and_true, true_and, forall_const, Array.toList, GTrue] at hd; (try go_split_ands); unfold toldAt; go_simp; refine ⟨Below.refl _ _, ?_⟩; exact (HA w' hw').mono fun e w'' ⟨A', c', he, ho, hb⟩ => ⟨_, he, hb, A', c', rfl, ho.lower hw'.size⟩) ?_)
  iterate 2 (refine told_step (fun v _ => v = _) (Stays.eq _) (by intro y w' hw' hd; simp only [depsOf, updG, Region.binds, Nat.reduceAdd, Nat.reduceEqDiff, if_false, if_true, and_true, true_and, forall_const, Array.toList, GTrue] at hd; (try go_split_ands); unfold toldAt; go_simp; exact ⟨Below.refl _ _, rfl⟩) ?_)
  (refine told_step (GOwn w1.heap.size m ss) (GOwn.stays _ _ _) (by intro y w' hw' hd; simp only [depsOf, updG, Region.binds, Nat.reduceAdd, Nat.reduceEqDiff, if_false, if_true, and_true, true_and, forall_const, Array.toList, GTrue] at hd; (try go_split_ands); unfold toldAt; go_simp; refine ⟨Below.refl _ _, ?_⟩; exact (HB w' hw').mono fun e w'' ⟨A', c', he, ho, hb⟩ => ⟨_, he, hb, A', c', rfl, ho.lower hw'.size⟩) ?_)
  (refine told_step (fun v _ => v = _) (Stays.eq _) (by intro y w' hw' hd; simp only [depsOf, updG, Region.binds, Nat.reduceAdd, Nat.reduceEqDiff, if_false, if_true, and_true, true_and, forall_const, Array.toList, GTrue] at hd; (try go_split_ands); unfold toldAt; go_simp; exact ⟨Below.refl _ _, rfl⟩) ?_)
  (refine told_nil ?_; intro y w2 hw2 hd)
  obtain ⟨A', c', e2, o2⟩ : GOwn w1.heap.size n ds (y 2) w2 := hd 2 (by decide)
  obtain ⟨B', d', e5, o5⟩ : GOwn w1.heap.size m ss (y 5) w2 := hd 5 (by decide)
  have e6 : y 6 = .pointer (some ⟨w.heap.size, 2, none⟩) := hd 6 (by decide)
  rw [e2, e5, e6]
  have k1 := K1.out.below hw2 K1.out.lt
  have k2 := K2.out.below hw2 K2.out.lt
  have c0 := k1.cell 0
  have c1 := k1.cell 1
  have c2 := k1.cell 2
  have c3 := k1.cell 3
  have d0 := k2.cell 0
  have d1 := k2.cell 1
  have d2 := k2.cell 2
  have d3 := k2.cell 3
  have fz : ∀ o, w2.frozen? ⟨w.heap.size, o, none⟩ = false := fun o => k1.frozen o
  have fz2 : ∀ o, w2.frozen? ⟨w.heap.size + 1, o, none⟩ = false := fun o => k2.frozen o
  have HO2 := Lib.hid o2
  have HO5 := Lib.hid o5
  have HW2 := Lib.hid (HW.out.trans (hw2.mono HW.out.size))
  clear hd e2 e5 e6 o2 o5 k1 k2 HA HB C2 C3 hw2
  go_wp2_with fail
  have hz := HZ.out
  have q1 : ∀ o, (⟨w.heap.size, o, none⟩ : Addr).block < w1.heap.size := fun o => by show w.heap.size < _; omega
  have q2 : ∀ o, (⟨w.heap.size + 1, o, none⟩ : Addr).block < w1.heap.size := fun o => by show w.heap.size + 1 < _; omega
  refine bodyPost_ret (v := .agg #[.int .u32 (ts : Int), .int .u32 (fs : Int), .slice A' n c', .slice B' m d']) (by simp [results, Try.results85, go_sem, c0, c1, c2, c3, d0, d1, d2, d3]) rfl ⟨⟨ts, fs, A', n, c', ds, B', m, d', ss⟩, rfl, ⟨rfl, rfl, rfl, rfl, rfl, rfl⟩, ⟨?_, ?_⟩, ?_⟩
  · exact ((((((HO2.out.low (q1 2) _).low (q1 3) _).low (q2 0) _).low (q2 1) _).low (q2 2) _).low (q2 3) _).lower (by omega)
  · exact ((((((HO5.out.low (q1 2) _).low (q1 3) _).low (q2 0) _).low (q2 1) _).low (q2 2) _).low (q2 3) _).lower (by omega)
  · exact (((((HW2.out.setCell (p := ⟨w.heap.size, 2, none⟩) (Nat.le_refl _) _).setCell (p := ⟨w.heap.size, 3, none⟩) (Nat.le_refl _) _).setCell (p := ⟨w.heap.size + 1, 0, none⟩) (Nat.le_succ _) _).setCell (p := ⟨w.heap.size + 1, 1, none⟩) (Nat.le_succ _) _).setCell (p := ⟨w.heap.size + 1, 2, none⟩) (Nat.le_succ _) _).setCell (p := ⟨w.heap.size + 1, 3, none⟩) (Nat.le_succ _) _
end Go.Proofs.Ytdmglajfmfjmlaa
namespace Go.Proofs.Ytdmglajfmfjmlaa
set_option linter.unusedSimpArgs false
set_option linter.unusedVariables false
set_option maxRecDepth 100000
open Go.RowKit
open Go.Maps (Keyed)
attribute [local go_sem] toldUpon_value toldUpon_skip toldUpon_enter
def RV (v : Value) : Option (DataW Value × List MemPlace) := some (.held v, [])
def z0 : Vl := ⟨0, 0, none, 0, 0, [], none, 0, 0, []⟩
theorem VR.z0 (w : World) : VR w z0 := ⟨Rd.nil _ _ _ _, Rd.nil _ _ _ _, by decide, by decide, by simp [Go.Proofs.Ytdmglajfmfjmlaa.z0], by simp [Go.Proofs.Ytdmglajfmfjmlaa.z0]⟩
theorem zeroV (w : World) : (zeroValue 66).run Try.prog w = .ok (vv z0) w := by kernel_rfl
theorem keyI : Keyed Try.prog 3 := Go.Maps.int_keyed Try.underlying3
abbrev OM (w : World) (b n : Nat) (D : DataW Value) : Prop := w.ownsMap Try.prog 3 RV b n D
def gv (D : DataW Value) (s : Int) : Value := match D.atKey (.int .i64 s) (.held (vv z0)) with | .held x => x | _ => undef
def I64w (s : Int) : Prop := (Lit.int .i64 s).wf = true
theorem look_run {w : World} {b n : Nat} {D : DataW Value} (h : OM w b n D) {s : Int} (hs : I64w s) : (Instr.lookup 137 (.map (some b)) (.int .i64 s) true).run Try.prog w = .ok (.tuple #[gv D s, .bool (Maps.has D (.int .i64 s))]) w := by
  obtain ⟨v, ps, hr, hv⟩ := h.look_ok keyI Try.underlying137 (zeroV w) rfl (Go.Maps.keyOf_int_mk Try.underlying3 hs)
  rw [hr]
  unfold RV at hv
  simp only [Option.some.injEq, Prod.mk.injEq] at hv
  unfold gv
  rw [← hv.1]
theorem len_run {w : World} {b n : Nat} {D : DataW Value} (h : OM w b n D) (ty : TypeId) : (Builtin.len_ #[137] ty #[.map (some b)]).run Try.prog w = .ok (.int .i64 (Maps.size D)) w := h.len Try.underlying137 ty
theorem gv_miss {D : DataW Value} {s : Int} (h : Maps.has D (.int .i64 s) = false) : gv D s = vv z0 := by
  unfold gv; rw [Go.Maps.atKey_of_not_has h]
theorem isKey (s : Int) : WideAt.IsKeyLit (.int .i64 s) := trivial
theorem gv_put {D : DataW Value} (hD : Go.Maps.IsMap D) (s : Int) (x : Value) : gv (D.put (.int .i64 s) (.held x)) s = x := by
  unfold gv; rw [Go.Maps.atKey_put_same hD (isKey s)]
theorem key_ne {s s' : Int} (h : s' ≠ s) : Lit.int .i64 s' ≠ Lit.int .i64 s := fun e => h (by simpa using e)
theorem OM.grown {w w' : World} {b n : Nat} {D : DataW Value} {r : Option Nat} (h : OM w b n D) (hg : w.grownBy w' r) (hne : some b ≠ r) : OM w' b n D := h.kept hg hne
theorem OM.below {w w' : World} {b n : Nat} {D : DataW Value} (h : OM w b n D) (hb : Below w.heap.size w w') : OM w' b n D :=
  h.kept (row := none) ⟨hb.os, hb.tape, hb.output, hb.size, fun k hk _ => hb.block k hk⟩ (by simp)
theorem gof {w w' : World} (h : Below w.heap.size w w') (r : Option Nat) : w.grownBy w' r := ⟨h.os, h.tape, h.output, h.size, fun k hk _ => h.block k hk⟩
theorem gtr {a b c : World} {r : Option Nat} (h : a.grownBy b r) (h' : b.grownBy c r) : a.grownBy c r :=
  ⟨h'.os.trans h.os, h'.tape.trans h.tape, h'.output.trans h.output, Nat.le_trans h.size h'.size, fun k hk hne => (h'.block k (Nat.lt_of_lt_of_le hk h.size) hne).trans (h.block k hk hne)⟩
theorem Bk.grownV {w w' : World} {g : Nat} {t : TypeId} {cs : Array Value} {r : Option Nat} (h : Bk w g t cs) (hg : w.grownBy w' r) (hne : some g ≠ r) : Bk w' g t cs := (hg.block g h.lt hne).trans h
theorem Rd.grownO {k : IntKind} {w w' : World} {A : Option Addr} {n c : Nat} {xs : List Nat} {r : Option Nat} (h : Rd k w A n c xs) (hg : w.grownBy w' r) (hne : ∀ ad, A = some ad → some ad.block ≠ r) : Rd k w' A n c xs := by
  obtain ⟨h1, h2, h2', h3⟩ := h
  refine ⟨h1, h2, h2', fun hn => ?_⟩
  obtain ⟨ad, rfl, hlt, hc⟩ := h3 hn
  refine ⟨ad, rfl, Nat.lt_of_lt_of_le hlt hg.size, fun j x hx => ?_⟩
  rw [World.cell?_of_block (w := w) (a := ad.add j) (hg.block _ (by rw [Go.ChangeShapes.block_add]; exact hlt) (by rw [Go.ChangeShapes.block_add]; exact hne ad rfl))]
  exact hc j x hx
theorem Own.grownO {k : IntKind} {e : TypeId} {w w' : World} {base n c : Nat} {A : Option Addr} {xs : List Nat} {r : Option Nat} (h : Own k e w base A n c xs) (hg : w.grownBy w' r) (hne : ∀ b, r = some b → b < base) : Own k e w' base A n c xs := by
  refine ⟨h.1, ?_⟩
  rcases h.2 with hn | ⟨g, cap, cur, h1, hgb, hh, rest⟩
  · exact .inl hn
  · exact .inr ⟨g, cap, cur, h1, hgb, (hg.block g (Array.getElem?_eq_some_iff.1 hh).1 (fun e => by have := hne g e.symm; omega)).trans hh, rest⟩
theorem VO.grown {w w' : World} {base : Nat} {v : Vl} {r : Option Nat} (h : VO w base v) (hg : w.grownBy w' r) (hne : ∀ b, r = some b → b < base) : VO w' base v := ⟨h.1.grownO hg hne, h.2.grownO hg hne⟩
theorem VR.grown {w w' : World} {v : Vl} {r : Option Nat} (h : VR w v) (hg : w.grownBy w' r) (hA : ∀ ad, v.A = some ad → some ad.block ≠ r) (hB : ∀ ad, v.B = some ad → some ad.block ≠ r) : VR w' v := ⟨h.1.grownO hg hA, h.2.1.grownO hg hB, h.2.2⟩
def SH (w : World) (g room b n : Nat) (D : DataW Value) : Prop := Bk w g 139 #[.int .i64 (room : Int), .map (some b)] ∧ OM w b n D ∧ g ≠ b
theorem SH.below {w w' : World} {g room b n : Nat} {D : DataW Value} (h : SH w g room b n D) (hb : Below w.heap.size w w') : SH w' g room b n D := ⟨h.1.below hb h.1.lt, h.2.1.below hb, h.2.2⟩
theorem map_neq (w : World) (r : Option Nat) : (binOp .neq 137 (.map r) (.map none)).run Try.prog w = .ok (.bool (!r.isNone)) w := run_neq_map_nil w _ _ _ r Try.underlying137
set_option maxHeartbeats 1000000 in
theorem made_any (w : World) {g room b : Nat} (h : Bk w g 139 #[.int .i64 (room : Int), .map (some b)]) : Calls Try.prog 116 #[.pointer (some ⟨g, 0, none⟩)] w fun e w' => e = .returned (.bool true) ∧ w = w' := by
  have c1 := h.cell 1
  have hm := map_neq
  clear h
  go_enter Try.func116, Try.ntmps116
  go_wp2_with fail
  go_ret
  exact ⟨rfl, rfl⟩
theorem snew_any (w : World) (room : Nat) (h1 : 1 ≤ room) (h2 : room ≤ 64) : Calls Try.prog 80 #[.int .i64 (room : Int)] w fun e w' => e = .returned (.tuple #[.pointer (some ⟨w.heap.size + 1, 0, none⟩), .int .i64 0]) ∧ SH w' (w.heap.size + 1) room w.heap.size 0 (.map []) ∧ Below w.heap.size w w' := by
  have a1 : ¬ (room : Int) < 1 := by omega
  have a2 : ¬ (64 : Int) < (room : Int) := by omega
  have hmm := @run_makeMap Try.prog
  go_enter Try.func80, Try.ntmps80
  go_wp2_with fail
  go_ret2
  refine ⟨rfl, ⟨Bk.at_new _ _ (by simp), OM.below (World.ownsMap_made _ _ _ _) ((Below.refl _ _).alloc (by simp) _), by omega⟩, ((Below.refl _ _).alloc (Nat.le_refl _) _).alloc (by simp) _⟩
end Go.Proofs.Ytdmglajfmfjmlaa
namespace Go.Proofs.Ytdmglajfmfjmlaa
set_option linter.unusedSimpArgs false
set_option linter.unusedVariables false
set_option maxRecDepth 100000
open Go.RowKit
open Go.Maps (Keyed)
attribute [local go_sem] toldUpon_value toldUpon_skip toldUpon_enter
def GVl (base : Nat) (v : Vl) : GFact := fun val w => ∃ v', val = vv v' ∧ same v v' ∧ VO w base v'
theorem GVl.stays (base : Nat) (v : Vl) : Stays (GVl base v) := fun _ _ _ hb ⟨v', e, hs, h⟩ => ⟨v', e, hs, h.below hb⟩
def PUT (w : World) (g room b n : Nat) (D : DataW Value) (s : Int) (v : Vl) (e : Ending) (w' : World) : Prop :=
  ∃ v', e = .returned (.int .i64 0) ∧ same v v' ∧ VO w' w.heap.size v' ∧ SH w' g room b (n + 1) (D.put (.int .i64 s) (.held (vv v'))) ∧ w.grownBy w' (some b)
set_option maxHeartbeats 2000000 in
theorem put_neg (w : World) {g room b n : Nat} {D : DataW Value} (h : SH w g room b n D) {s : Int} (hs : I64w s) (v x : Vl) (hh : Bool) (hhas : Maps.has D (.int .i64 s) = hh) (hgv : gv D s = vv x) (hneg : s < 0) :
    Calls Try.prog 81 #[.pointer (some ⟨g, 0, none⟩), .int .i64 s, vv v] w fun e w' => e = .returned (.int .i64 1) ∧ Below w.heap.size w w' := by
  obtain ⟨ts, fs, A, vn, c, ds, B, m, d, ss⟩ := v
  obtain ⟨xts, xfs, xA, xn, xc, xds, xB, xm, xd, xss⟩ := x
  have HS := Lib.hid h
  clear h
  unfold vv at hgv ⊢
  go_enter Try.func81, Try.ntmps81
  go_upto_region 1 with (fail)
  obtain ⟨w1, hw1⟩ : ∃ y, w.alloc (.cells #[.int .u32 (ts : Int), .int .u32 (fs : Int), .slice A vn c, .slice B m d] 66) = y := ⟨_, rfl⟩
  have hb1 : Below w.heap.size w w1 := by rw [← hw1]; exact (Below.refl _ _).alloc (Nat.le_refl _) _
  have k1 : Bk w1 w.heap.size 66 #[.int .u32 (ts : Int), .int .u32 (fs : Int), .slice A vn c, .slice B m d] := by rw [← hw1]; exact Bk.new w _ _
  have hz1 : w1.heap.size = w.heap.size + 1 := by rw [← hw1]; simp
  rw [hw1]
  clear hw1
  have hM := made_any w1 (HS.out.below hb1).1
  have hL := look_run (HS.out.below hb1).2.1 hs
  rw [hgv, hhas] at hL
  have g0 := (HS.out.below hb1).1.cell 0
  have g1 := (HS.out.below hb1).1.cell 1
  have HB1 := Lib.hid hb1
  have HZ1 := Lib.hid hz1
  have HK1 := Lib.hid k1
  clear hb1 hz1 k1
  go_upto_region 4 with (go_at_call 116; refine hM.mono ?_; rintro e w2 ⟨rfl, rfl⟩)
  obtain ⟨w2, hw2⟩ : ∃ y, w1.alloc (.cells #[.int .u32 (xts : Int), .int .u32 (xfs : Int), .slice xA xn xc, .slice xB xm xd] 66) = y := ⟨_, rfl⟩
  have hb2 : Below w1.heap.size w1 w2 := by rw [← hw2]; exact (Below.refl _ _).alloc (Nat.le_refl _) _
  have k2 : Bk w2 w1.heap.size 66 #[.int .u32 (xts : Int), .int .u32 (xfs : Int), .slice xA xn xc, .slice xB xm xd] := by rw [← hw2]; exact Bk.new w1 _ _
  have hbb : Below w.heap.size w w2 := HB1.out.trans (hb2.mono HB1.out.size)
  have k1 := HK1.out.below hb2 HK1.out.lt
  have k2' := k2
  have hsh := HS.out.below hbb
  rw [hw2]
  clear hw2 hM hL g0 g1 HB1
  have HBB := Lib.hid hbb
  have K1 := Lib.hid k1
  have K2 := Lib.hid k2
  have HSH := Lib.hid hsh
  have c0 := k1.cell 0
  have c1 := k1.cell 1
  have c2 := k1.cell 2
  have c3 := k1.cell 3
  have d0 := k2.cell 0
  have d1 := k2.cell 1
  have d2 := k2.cell 2
  have d3 := k2.cell 3
  clear hbb k1 k2 k2' hb2 hsh
  go_wp2_with fail
  go_ret
  exact ⟨rfl, HBB.out⟩
set_option maxHeartbeats 2000000 in
theorem put_long (w : World) {g room b n : Nat} {D : DataW Value} (h : SH w g room b n D) {s : Int} (hs : I64w s) (v x : Vl) (hh : Bool) (hhas : Maps.has D (.int .i64 s) = hh) (hgv : gv D s = vv x) (hneg : ¬ s < 0) (hl : 2048 < v.n ∨ 128 < v.m) :
    Calls Try.prog 81 #[.pointer (some ⟨g, 0, none⟩), .int .i64 s, vv v] w fun e w' => e = .returned (.int .i64 2) ∧ Below w.heap.size w w' := by
  obtain ⟨ts, fs, A, vn, c, ds, B, m, d, ss⟩ := v
  obtain ⟨xts, xfs, xA, xn, xc, xds, xB, xm, xd, xss⟩ := x
  have HS := Lib.hid h
  clear h
  replace hl : 2048 < vn ∨ 128 < m := hl
  unfold vv at hgv ⊢
  rcases (show 2048 < vn ∨ (¬ 2048 < vn ∧ 128 < m) by omega) with h1 | ⟨h1, h2⟩
  · have a1 : (2048 : Int) < (vn : Int) := by omega
    clear hl
    go_enter Try.func81, Try.ntmps81
    go_upto_region 1 with (fail)
    obtain ⟨w1, hw1⟩ : ∃ y, w.alloc (.cells #[.int .u32 (ts : Int), .int .u32 (fs : Int), .slice A vn c, .slice B m d] 66) = y := ⟨_, rfl⟩
    have hb1 : Below w.heap.size w w1 := by rw [← hw1]; exact (Below.refl _ _).alloc (Nat.le_refl _) _
    have k1 : Bk w1 w.heap.size 66 #[.int .u32 (ts : Int), .int .u32 (fs : Int), .slice A vn c, .slice B m d] := by rw [← hw1]; exact Bk.new w _ _
    have hz1 : w1.heap.size = w.heap.size + 1 := by rw [← hw1]; simp
    rw [hw1]
    clear hw1
    have hM := made_any w1 (HS.out.below hb1).1
    have hL := look_run (HS.out.below hb1).2.1 hs
    rw [hgv, hhas] at hL
    have g0 := (HS.out.below hb1).1.cell 0
    have g1 := (HS.out.below hb1).1.cell 1
    have HB1 := Lib.hid hb1
    have HZ1 := Lib.hid hz1
    have HK1 := Lib.hid k1
    clear hb1 hz1 k1
    go_upto_region 4 with (go_at_call 116; refine hM.mono ?_; rintro e w2 ⟨rfl, rfl⟩)
    obtain ⟨w2, hw2⟩ : ∃ y, w1.alloc (.cells #[.int .u32 (xts : Int), .int .u32 (xfs : Int), .slice xA xn xc, .slice xB xm xd] 66) = y := ⟨_, rfl⟩
    have hb2 : Below w1.heap.size w1 w2 := by rw [← hw2]; exact (Below.refl _ _).alloc (Nat.le_refl _) _
    have k2 : Bk w2 w1.heap.size 66 #[.int .u32 (xts : Int), .int .u32 (xfs : Int), .slice xA xn xc, .slice xB xm xd] := by rw [← hw2]; exact Bk.new w1 _ _
    have hbb : Below w.heap.size w w2 := HB1.out.trans (hb2.mono HB1.out.size)
    have k1 := HK1.out.below hb2 HK1.out.lt
    have k2' := k2
    have hsh := HS.out.below hbb
    rw [hw2]
    clear hw2 hM hL g0 g1 HB1
    have HBB := Lib.hid hbb
    have K1 := Lib.hid k1
    have K2 := Lib.hid k2
    have HSH := Lib.hid hsh
    have c0 := k1.cell 0
    have c1 := k1.cell 1
    have c2 := k1.cell 2
    have c3 := k1.cell 3
    have d0 := k2.cell 0
    have d1 := k2.cell 1
    have d2 := k2.cell 2
    have d3 := k2.cell 3
    clear hbb k1 k2 k2' hb2 hsh
    go_wp2_with fail
    go_ret
    exact ⟨rfl, HBB.out⟩
  · have a1 : ¬ (2048 : Int) < (vn : Int) := by omega
    have a2 : (128 : Int) < (m : Int) := by omega
    clear hl
    go_enter Try.func81, Try.ntmps81
    go_upto_region 1 with (fail)
    obtain ⟨w1, hw1⟩ : ∃ y, w.alloc (.cells #[.int .u32 (ts : Int), .int .u32 (fs : Int), .slice A vn c, .slice B m d] 66) = y := ⟨_, rfl⟩
    have hb1 : Below w.heap.size w w1 := by rw [← hw1]; exact (Below.refl _ _).alloc (Nat.le_refl _) _
    have k1 : Bk w1 w.heap.size 66 #[.int .u32 (ts : Int), .int .u32 (fs : Int), .slice A vn c, .slice B m d] := by rw [← hw1]; exact Bk.new w _ _
    have hz1 : w1.heap.size = w.heap.size + 1 := by rw [← hw1]; simp
    rw [hw1]
    clear hw1
    have hM := made_any w1 (HS.out.below hb1).1
    have hL := look_run (HS.out.below hb1).2.1 hs
    rw [hgv, hhas] at hL
    have g0 := (HS.out.below hb1).1.cell 0
    have g1 := (HS.out.below hb1).1.cell 1
    have HB1 := Lib.hid hb1
    have HZ1 := Lib.hid hz1
    have HK1 := Lib.hid k1
    clear hb1 hz1 k1
    go_upto_region 4 with (go_at_call 116; refine hM.mono ?_; rintro e w2 ⟨rfl, rfl⟩)
    obtain ⟨w2, hw2⟩ : ∃ y, w1.alloc (.cells #[.int .u32 (xts : Int), .int .u32 (xfs : Int), .slice xA xn xc, .slice xB xm xd] 66) = y := ⟨_, rfl⟩
    have hb2 : Below w1.heap.size w1 w2 := by rw [← hw2]; exact (Below.refl _ _).alloc (Nat.le_refl _) _
    have k2 : Bk w2 w1.heap.size 66 #[.int .u32 (xts : Int), .int .u32 (xfs : Int), .slice xA xn xc, .slice xB xm xd] := by rw [← hw2]; exact Bk.new w1 _ _
    have hbb : Below w.heap.size w w2 := HB1.out.trans (hb2.mono HB1.out.size)
    have k1 := HK1.out.below hb2 HK1.out.lt
    have k2' := k2
    have hsh := HS.out.below hbb
    rw [hw2]
    clear hw2 hM hL g0 g1 HB1
    have HBB := Lib.hid hbb
    have K1 := Lib.hid k1
    have K2 := Lib.hid k2
    have HSH := Lib.hid hsh
    have c0 := k1.cell 0
    have c1 := k1.cell 1
    have c2 := k1.cell 2
    have c3 := k1.cell 3
    have d0 := k2.cell 0
    have d1 := k2.cell 1
    have d2 := k2.cell 2
    have d3 := k2.cell 3
    clear hbb k1 k2 k2' hb2 hsh
    go_wp2_with fail
    go_ret
    exact ⟨rfl, HBB.out⟩
set_option maxHeartbeats 2000000 in
theorem put_old (w : World) {g room b n : Nat} {D : DataW Value} (h : SH w g room b n D) {s : Int} (hs : I64w s) (v x : Vl) (hhas : Maps.has D (.int .i64 s) = true) (hgv : gv D s = vv x) (hneg : ¬ s < 0) (hl : v.n ≤ 2048) (hl2 : v.m ≤ 128) (hnew : newB v x = false) :
    Calls Try.prog 81 #[.pointer (some ⟨g, 0, none⟩), .int .i64 s, vv v] w fun e w' => e = .returned (.int .i64 120) ∧ Below w.heap.size w w' := by
  have hN := fun w => newer_any w v x
  rw [hnew] at hN
  clear hnew
  obtain ⟨ts, fs, A, vn, c, ds, B, m, d, ss⟩ := v
  obtain ⟨xts, xfs, xA, xn, xc, xds, xB, xm, xd, xss⟩ := x
  have HS := Lib.hid h
  clear h
  replace hl : vn ≤ 2048 := hl
  replace hl2 : m ≤ 128 := hl2
  unfold vv at hgv hN ⊢
  have a1 : ¬ (2048 : Int) < (vn : Int) := by omega
  have a2 : ¬ (128 : Int) < (m : Int) := by omega
  go_enter Try.func81, Try.ntmps81
  go_upto_region 1 with (fail)
  obtain ⟨w1, hw1⟩ : ∃ y, w.alloc (.cells #[.int .u32 (ts : Int), .int .u32 (fs : Int), .slice A vn c, .slice B m d] 66) = y := ⟨_, rfl⟩
  have hb1 : Below w.heap.size w w1 := by rw [← hw1]; exact (Below.refl _ _).alloc (Nat.le_refl _) _
  have k1 : Bk w1 w.heap.size 66 #[.int .u32 (ts : Int), .int .u32 (fs : Int), .slice A vn c, .slice B m d] := by rw [← hw1]; exact Bk.new w _ _
  have hz1 : w1.heap.size = w.heap.size + 1 := by rw [← hw1]; simp
  rw [hw1]
  clear hw1
  have hM := made_any w1 (HS.out.below hb1).1
  have hL := look_run (HS.out.below hb1).2.1 hs
  rw [hgv, hhas] at hL
  have g0 := (HS.out.below hb1).1.cell 0
  have g1 := (HS.out.below hb1).1.cell 1
  have HB1 := Lib.hid hb1
  have HZ1 := Lib.hid hz1
  have HK1 := Lib.hid k1
  clear hb1 hz1 k1
  go_upto_region 4 with (go_at_call 116; refine hM.mono ?_; rintro e w2 ⟨rfl, rfl⟩)
  obtain ⟨w2, hw2⟩ : ∃ y, w1.alloc (.cells #[.int .u32 (xts : Int), .int .u32 (xfs : Int), .slice xA xn xc, .slice xB xm xd] 66) = y := ⟨_, rfl⟩
  have hb2 : Below w1.heap.size w1 w2 := by rw [← hw2]; exact (Below.refl _ _).alloc (Nat.le_refl _) _
  have k2 : Bk w2 w1.heap.size 66 #[.int .u32 (xts : Int), .int .u32 (xfs : Int), .slice xA xn xc, .slice xB xm xd] := by rw [← hw2]; exact Bk.new w1 _ _
  have hbb : Below w.heap.size w w2 := HB1.out.trans (hb2.mono HB1.out.size)
  have k1 := HK1.out.below hb2 HK1.out.lt
  have k2' := k2
  have hsh := HS.out.below hbb
  rw [hw2]
  clear hw2 hM hL g0 g1 HB1
  have HBB := Lib.hid hbb
  have K1 := Lib.hid k1
  have K2 := Lib.hid k2
  have HSH := Lib.hid hsh
  have c0 := k1.cell 0
  have c1 := k1.cell 1
  have c2 := k1.cell 2
  have c3 := k1.cell 3
  have d0 := k2.cell 0
  have d1 := k2.cell 1
  have d2 := k2.cell 2
  have d3 := k2.cell 3
  clear hbb k1 k2 k2' hb2 hsh
  go_wp2_with (go_at_call 117; refine (hN _).mono ?_; rintro e w5 ⟨rfl, hb5⟩)
  go_ret
  exact ⟨rfl, HBB.out.trans (hb5.mono HBB.out.size)⟩
set_option maxHeartbeats 2000000 in
theorem put_full (w : World) {g room b n : Nat} {D : DataW Value} (h : SH w g room b n D) {s : Int} (hs : I64w s) (v : Vl) (hhas : Maps.has D (.int .i64 s) = false) (hneg : ¬ s < 0) (hl : v.n ≤ 2048) (hl2 : v.m ≤ 128) (hroom : room ≤ Maps.size D) :
    Calls Try.prog 81 #[.pointer (some ⟨g, 0, none⟩), .int .i64 s, vv v] w fun e w' => e = .returned (.int .i64 5) ∧ Below w.heap.size w w' := by
  have hgv := gv_miss hhas
  unfold z0 at hgv
  obtain ⟨ts, fs, A, vn, c, ds, B, m, d, ss⟩ := v
  have HS := Lib.hid h
  clear h
  replace hl : vn ≤ 2048 := hl
  replace hl2 : m ≤ 128 := hl2
  unfold vv at hgv ⊢
  obtain ⟨xts, xfs, xA, xn, xc, xB, xm, xd, hx⟩ : ∃ (xts xfs : Nat) (xA : Option Addr) (xn xc : Nat) (xB : Option Addr) (xm xd : Nat), gv D s = .agg #[.int .u32 (xts : Int), .int .u32 (xfs : Int), .slice xA xn xc, .slice xB xm xd] := ⟨_, _, _, _, _, _, _, _, hgv⟩
  clear hgv
  have hgv := hx
  clear hx
  have a1 : ¬ (2048 : Int) < (vn : Int) := by omega
  have a2 : ¬ (128 : Int) < (m : Int) := by omega
  have a3 : (room : Int) ≤ (Maps.size D : Int) := by omega
  go_enter Try.func81, Try.ntmps81
  go_upto_region 1 with (fail)
  obtain ⟨w1, hw1⟩ : ∃ y, w.alloc (.cells #[.int .u32 (ts : Int), .int .u32 (fs : Int), .slice A vn c, .slice B m d] 66) = y := ⟨_, rfl⟩
  have hb1 : Below w.heap.size w w1 := by rw [← hw1]; exact (Below.refl _ _).alloc (Nat.le_refl _) _
  have k1 : Bk w1 w.heap.size 66 #[.int .u32 (ts : Int), .int .u32 (fs : Int), .slice A vn c, .slice B m d] := by rw [← hw1]; exact Bk.new w _ _
  have hz1 : w1.heap.size = w.heap.size + 1 := by rw [← hw1]; simp
  rw [hw1]
  clear hw1
  have hM := made_any w1 (HS.out.below hb1).1
  have hL := look_run (HS.out.below hb1).2.1 hs
  rw [hgv, hhas] at hL
  have g0 := (HS.out.below hb1).1.cell 0
  have g1 := (HS.out.below hb1).1.cell 1
  have HB1 := Lib.hid hb1
  have HZ1 := Lib.hid hz1
  have HK1 := Lib.hid k1
  clear hb1 hz1 k1
  go_upto_region 4 with (go_at_call 116; refine hM.mono ?_; rintro e w2 ⟨rfl, rfl⟩)
  obtain ⟨w2, hw2⟩ : ∃ y, w1.alloc (.cells #[.int .u32 (xts : Int), .int .u32 (xfs : Int), .slice xA xn xc, .slice xB xm xd] 66) = y := ⟨_, rfl⟩
  have hb2 : Below w1.heap.size w1 w2 := by rw [← hw2]; exact (Below.refl _ _).alloc (Nat.le_refl _) _
  have k2 : Bk w2 w1.heap.size 66 #[.int .u32 (xts : Int), .int .u32 (xfs : Int), .slice xA xn xc, .slice xB xm xd] := by rw [← hw2]; exact Bk.new w1 _ _
  have hbb : Below w.heap.size w w2 := HB1.out.trans (hb2.mono HB1.out.size)
  have k1 := HK1.out.below hb2 HK1.out.lt
  have k2' := k2
  have hsh := HS.out.below hbb
  rw [hw2]
  clear hw2 hM hL g0 g1 HB1
  have HBB := Lib.hid hbb
  have K1 := Lib.hid k1
  have K2 := Lib.hid k2
  have HSH := Lib.hid hsh
  have c0 := k1.cell 0
  have c1 := k1.cell 1
  have c2 := k1.cell 2
  have c3 := k1.cell 3
  have d0 := k2.cell 0
  have d1 := k2.cell 1
  have d2 := k2.cell 2
  have d3 := k2.cell 3
  clear hbb k1 k2 k2' hb2 hsh
  go_upto_region 10 with (fail)
  have G0 : ∀ w', Below w2.heap.size w2 w' → w'.cell? ⟨g, 0, none⟩ = some (.int .i64 (room : Int)) := fun w' h => (HSH.out.below h).1.cell 0
  have G1 : ∀ w', Below w2.heap.size w2 w' → w'.cell? ⟨g, 1, none⟩ = some (.map (some b)) := fun w' h => (HSH.out.below h).1.cell 1
  have GL : ∀ w' ty, Below w2.heap.size w2 w' → (Builtin.len_ #[137] ty #[.map (some b)]).run Try.prog w' = .ok (.int .i64 (Maps.size D : Int)) w' := fun w' ty h => len_run (HSH.out.below h).2.1 ty
  (refine region_told _ (by kernel_rfl) (by kernel_rfl) (by simp only [putAll, Act.put, List.setIfInBounds_toArray, List.set_cons_zero, List.set_cons_succ, Nat.reduceAdd]; rfl) ?_)
  repeat (refine told_step (fun v _ => v = _) (Stays.eq _) (by intro y w' hw' hd; simp only [depsOf, updG, Region.binds, Nat.reduceAdd, Nat.reduceEqDiff, if_false, if_true, and_true, true_and, forall_const, Array.toList, GTrue] at hd; (try go_split_ands); unfold toldAt; go_simp; exact ⟨Below.refl _ _, rfl⟩) ?_)
  (refine told_nil ?_; intro y w4 hw4 hd)
  have e14 : y 14 = .bool true := hd 14 (by decide)
  rw [e14]
  clear hd e14 G0 G1 GL
  go_wp2_with fail
  go_ret
  exact ⟨rfl, HBB.out.trans (hw4.mono HBB.out.size)⟩
set_option maxHeartbeats 2000000 in
theorem put_new (w : World) {g room b n : Nat} {D : DataW Value} (h : SH w g room b n D) (hn : n < 1000000) {s : Int} (hs : I64w s) (v : Vl) (hv : VR w v) (hhas : Maps.has D (.int .i64 s) = false) (hneg : ¬ s < 0) (hl : v.n ≤ 2048) (hl2 : v.m ≤ 128) (hroom : ¬ room ≤ Maps.size D) :
    Calls Try.prog 81 #[.pointer (some ⟨g, 0, none⟩), .int .i64 s, vv v] w (PUT w g room b n D s v) := by
  have hgv := gv_miss hhas
  unfold z0 at hgv
  obtain ⟨ts, fs, A, vn, c, ds, B, m, d, ss⟩ := v
  have HS := Lib.hid h
  have HVR := Lib.hid hv
  have HBLT := Lib.hid h.2.1.lt
  clear h hv
  replace hl : vn ≤ 2048 := hl
  replace hl2 : m ≤ 128 := hl2
  unfold vv at hgv ⊢
  obtain ⟨xts, xfs, xA, xn, xc, xB, xm, xd, hx⟩ : ∃ (xts xfs : Nat) (xA : Option Addr) (xn xc : Nat) (xB : Option Addr) (xm xd : Nat), gv D s = .agg #[.int .u32 (xts : Int), .int .u32 (xfs : Int), .slice xA xn xc, .slice xB xm xd] := ⟨_, _, _, _, _, _, _, _, hgv⟩
  clear hgv
  have hgv := hx
  clear hx
  have a1 : ¬ (2048 : Int) < (vn : Int) := by omega
  have a2 : ¬ (128 : Int) < (m : Int) := by omega
  have a3 : ¬ (room : Int) ≤ (Maps.size D : Int) := by omega
  go_enter Try.func81, Try.ntmps81
  go_upto_region 1 with (fail)
  obtain ⟨w1, hw1⟩ : ∃ y, w.alloc (.cells #[.int .u32 (ts : Int), .int .u32 (fs : Int), .slice A vn c, .slice B m d] 66) = y := ⟨_, rfl⟩
  have hb1 : Below w.heap.size w w1 := by rw [← hw1]; exact (Below.refl _ _).alloc (Nat.le_refl _) _
  have k1 : Bk w1 w.heap.size 66 #[.int .u32 (ts : Int), .int .u32 (fs : Int), .slice A vn c, .slice B m d] := by rw [← hw1]; exact Bk.new w _ _
  have hz1 : w1.heap.size = w.heap.size + 1 := by rw [← hw1]; simp
  rw [hw1]
  clear hw1
  have hM := made_any w1 (HS.out.below hb1).1
  have hL := look_run (HS.out.below hb1).2.1 hs
  rw [hgv, hhas] at hL
  have g0 := (HS.out.below hb1).1.cell 0
  have g1 := (HS.out.below hb1).1.cell 1
  have HB1 := Lib.hid hb1
  have HZ1 := Lib.hid hz1
  have HK1 := Lib.hid k1
  clear hb1 hz1 k1
  go_upto_region 4 with (go_at_call 116; refine hM.mono ?_; rintro e w2 ⟨rfl, rfl⟩)
  obtain ⟨w2, hw2⟩ : ∃ y, w1.alloc (.cells #[.int .u32 (xts : Int), .int .u32 (xfs : Int), .slice xA xn xc, .slice xB xm xd] 66) = y := ⟨_, rfl⟩
  have hb2 : Below w1.heap.size w1 w2 := by rw [← hw2]; exact (Below.refl _ _).alloc (Nat.le_refl _) _
  have k2 : Bk w2 w1.heap.size 66 #[.int .u32 (xts : Int), .int .u32 (xfs : Int), .slice xA xn xc, .slice xB xm xd] := by rw [← hw2]; exact Bk.new w1 _ _
  have hbb : Below w.heap.size w w2 := HB1.out.trans (hb2.mono HB1.out.size)
  have k1 := HK1.out.below hb2 HK1.out.lt
  have k2' := k2
  have hsh := HS.out.below hbb
  rw [hw2]
  clear hw2 hM hL g0 g1 HB1
  have HBB := Lib.hid hbb
  have K1 := Lib.hid k1
  have K2 := Lib.hid k2
  have HSH := Lib.hid hsh
  have c0 := k1.cell 0
  have c1 := k1.cell 1
  have c2 := k1.cell 2
  have c3 := k1.cell 3
  have d0 := k2.cell 0
  have d1 := k2.cell 1
  have d2 := k2.cell 2
  have d3 := k2.cell 3
  clear hbb k1 k2 k2' hb2 hsh
  go_upto_region 10 with (fail)
  have G0 : ∀ w', Below w2.heap.size w2 w' → w'.cell? ⟨g, 0, none⟩ = some (.int .i64 (room : Int)) := fun w' h => (HSH.out.below h).1.cell 0
  have G1 : ∀ w', Below w2.heap.size w2 w' → w'.cell? ⟨g, 1, none⟩ = some (.map (some b)) := fun w' h => (HSH.out.below h).1.cell 1
  have GL : ∀ w' ty, Below w2.heap.size w2 w' → (Builtin.len_ #[137] ty #[.map (some b)]).run Try.prog w' = .ok (.int .i64 (Maps.size D : Int)) w' := fun w' ty h => len_run (HSH.out.below h).2.1 ty
  (refine region_told _ (by kernel_rfl) (by kernel_rfl) (by simp only [putAll, Act.put, List.setIfInBounds_toArray, List.set_cons_zero, List.set_cons_succ, Nat.reduceAdd]; rfl) ?_)
  repeat (refine told_step (fun v _ => v = _) (Stays.eq _) (by intro y w' hw' hd; simp only [depsOf, updG, Region.binds, Nat.reduceAdd, Nat.reduceEqDiff, if_false, if_true, and_true, true_and, forall_const, Array.toList, GTrue] at hd; (try go_split_ands); unfold toldAt; go_simp; exact ⟨Below.refl _ _, rfl⟩) ?_)
  (refine told_nil ?_; intro y w4 hw4 hd)
  have e14 : y 14 = .bool false := hd 14 (by decide)
  rw [e14]
  clear hd e14 G0 G1 GL
  obtain ⟨w5, hb5⟩ : ∃ w5, Below w2.heap.size w2 w5 ∧ w5 = w4 := ⟨w4, hw4, rfl⟩
  obtain ⟨hb5, rfl⟩ := hb5
  clear hw4
  have hbb5 := HBB.out.trans (hb5.mono HBB.out.size)
  have k5 := K1.out.below hb5 K1.out.lt
  have hs5 := HSH.out.below hb5
  have C0 : ∀ w', Below w5.heap.size w5 w' → w'.cell? ⟨w.heap.size, 0, none⟩ = some (.int .u32 (ts : Int)) := fun w' h => (k5.below h k5.lt).cell 0
  have C1 : ∀ w', Below w5.heap.size w5 w' → w'.cell? ⟨w.heap.size, 1, none⟩ = some (.int .u32 (fs : Int)) := fun w' h => (k5.below h k5.lt).cell 1
  have C2 : ∀ w', Below w5.heap.size w5 w' → w'.cell? ⟨w.heap.size, 2, none⟩ = some (.slice A vn c) := fun w' h => (k5.below h k5.lt).cell 2
  have C3 : ∀ w', Below w5.heap.size w5 w' → w'.cell? ⟨w.heap.size, 3, none⟩ = some (.slice B m d) := fun w' h => (k5.below h k5.lt).cell 3
  have G1 : ∀ w', Below w5.heap.size w5 w' → w'.cell? ⟨g, 1, none⟩ = some (.map (some b)) := fun w' h => (hs5.below h).1.cell 1
  have HV5 := HVR.out.below hbb5
  have HCP : ∀ w', Below w5.heap.size w5 w' → Calls Try.prog 85 #[.agg #[.int .u32 (ts : Int), .int .u32 (fs : Int), .slice A vn c, .slice B m d]] w' fun e w'' => ∃ v', e = .returned (vv v') ∧ same ⟨ts, fs, A, vn, c, ds, B, m, d, ss⟩ v' ∧ VO w'' w'.heap.size v' ∧ Below w'.heap.size w' w'' := fun w' h => copied_any w' ⟨ts, fs, A, vn, c, ds, B, m, d, ss⟩ (HV5.below h) (by show vn ≤ _; omega) (by show m ≤ _; omega)
  have HB5 := Lib.hid hbb5
  have HS5 := Lib.hid hs5
  clear hb5 hbb5 k5 hs5 HV5
  go_upto_region 12 with (fail)
  (refine region_told_tail 7 _ (by kernel_rfl) (by kernel_rfl) (by simp only [List.take_succ_cons, List.take_zero, putAll, Act.put, List.setIfInBounds_toArray, List.set_cons_zero, List.set_cons_succ, Nat.reduceAdd]; rfl) ?_; simp only [List.take_succ_cons, List.take_zero, List.drop_succ_cons, List.drop_zero])
  iterate 6 (refine told_step (fun v _ => v = _) (Stays.eq _) (by intro y w' hw' hd; simp only [depsOf, updG, Region.binds, Nat.reduceAdd, Nat.reduceEqDiff, if_false, if_true, and_true, true_and, forall_const, Array.toList, GTrue] at hd; (try go_split_ands); unfold toldAt; go_simp; exact ⟨Below.refl _ _, rfl⟩) ?_)
  (refine told_step (GVl w5.heap.size ⟨ts, fs, A, vn, c, ds, B, m, d, ss⟩) (GVl.stays _ _) (by intro y w' hw' hd; simp only [depsOf, updG, Region.binds, Nat.reduceAdd, Nat.reduceEqDiff, if_false, if_true, and_true, true_and, forall_const, Array.toList, GTrue] at hd; (try go_split_ands); unfold toldAt; go_simp; refine ⟨Below.refl _ _, ?_⟩; exact (HCP w' hw').mono fun e w'' ⟨v', he, hsm, ho, hb⟩ => ⟨_, he, hb, v', rfl, hsm, ho.lower hw'.size⟩) ?_)
  (refine told_nil ?_; intro z w6 hw6 hd)
  have e3 : z 3 = .map (some b) := hd 3 (by decide)
  have e4 : z 4 = .int .i64 s := hd 4 (by decide)
  obtain ⟨v', e6, hsm, ho⟩ : GVl w5.heap.size ⟨ts, fs, A, vn, c, ds, B, m, d, ss⟩ (z 6) w6 := hd 6 (by decide)
  rw [e3, e4, e6]
  have hs6 := HS5.out.below hw6
  have HB6 := Lib.hid (HB5.out.trans (hw6.mono HB5.out.size))
  have HW6 := Lib.hid hw6
  have HO := Lib.hid (And.intro hsm ho)
  have HS6 := Lib.hid hs6
  clear hd e3 e4 e6 C0 C1 C2 C3 G1 HCP hw6 hsm ho hs6 K1 K2 HSH HBB HS
  go_wp2_with (at_mapUpdate; refine wpList_mapUpdate_own _ rfl _ _ _ 137 rfl 3 66 keyI Try.underlying137 RV b n D rfl HS6.out.2.1 (by unfold maxLen; omega) (.int .i64 s) (vv v') _ rfl rfl (Go.Maps.keyOf_int_mk Try.underlying3 hs) _ [] rfl ?_; intro w7 hown7 hg7; replace hg7 := Lib.hid hg7; replace hown7 := Lib.hid hown7)
  go_ret
  have hbs : b < w.heap.size := HBLT.out
  have hlt := HB5.out.size
  refine ⟨v', rfl, HO.out.1, (HO.out.2.lower hlt).grown hg7.out (fun b' e => by cases e; exact hbs), ⟨HS6.out.1.grownV hg7.out (by simpa using HS6.out.2.2), hown7.out, HS6.out.2.2⟩, gtr (gof HB6.out _) hg7.out⟩
end Go.Proofs.Ytdmglajfmfjmlaa
namespace Go.Proofs.Ytdmglajfmfjmlaa
set_option linter.unusedSimpArgs false
set_option linter.unusedVariables false
set_option maxRecDepth 100000
open Go.RowKit
open Go.Maps (Keyed)
attribute [local go_sem] toldUpon_value toldUpon_skip toldUpon_enter
def longB (v : Vl) : Bool := (decide (300 < v.n) && decide (v.n ≤ 2048)) || decide (3000 < v.n) || decide (300 < v.m)
set_option maxHeartbeats 1000000 in
theorem vlong_any (w : World) (v : Vl) : Calls Try.prog 37 #[vv v] w fun e w' => e = .returned (.bool (longB v)) ∧ Below w.heap.size w w' := by
  have H := Lib.hid (show longB v = ((decide (300 < v.n) && decide (v.n ≤ 2048)) || decide (3000 < v.n) || decide (300 < v.m)) from rfl)
  obtain ⟨ts, fs, A, n, c, ds, B, m, d, ss⟩ := v
  replace H := Lib.hid (H.out.trans (show _ = ((decide (300 < n) && decide (n ≤ 2048)) || decide (3000 < n) || decide (300 < m)) from rfl))
  unfold vv
  rcases (show (¬ (300 : Int) < (n : Int) ∧ (n : Int) ≤ 2048 ∧ ¬ (3000 : Int) < (n : Int)) ∨ ((300 : Int) < (n : Int) ∧ (n : Int) ≤ 2048 ∧ ¬ (3000 : Int) < (n : Int)) ∨ ((300 : Int) < (n : Int) ∧ ¬ (n : Int) ≤ 2048 ∧ ¬ (3000 : Int) < (n : Int)) ∨ ((300 : Int) < (n : Int) ∧ ¬ (n : Int) ≤ 2048 ∧ (3000 : Int) < (n : Int)) by omega) with ⟨a1, a2, a3⟩ | ⟨a1, a2, a3⟩ | ⟨a1, a2, a3⟩ | ⟨a1, a2, a3⟩ <;> by_cases a4 : (300 : Int) < (m : Int)
  all_goals
    have HR := Lib.hid (H.out.trans (show _ = ((decide ((300 : Int) < (n : Int)) && decide ((n : Int) ≤ 2048)) || decide ((3000 : Int) < (n : Int)) || decide ((300 : Int) < (m : Int))) by simp only [show (300 < n) ↔ ((300 : Int) < (n : Int)) by omega, show (n ≤ 2048) ↔ ((n : Int) ≤ 2048) by omega, show (3000 < n) ↔ ((3000 : Int) < (n : Int)) by omega, show (300 < m) ↔ ((300 : Int) < (m : Int)) by omega]))
    clear H
    go_enter Try.func37, Try.ntmps37
    go_wp2_with fail
    go_ret
    exact ⟨by rw [HR.out]; simp [*], (Below.refl _ _).alloc (Nat.le_refl _) _⟩
end Go.Proofs.Ytdmglajfmfjmlaa
namespace Go.Proofs.Ytdmglajfmfjmlaa
set_option linter.unusedSimpArgs false
set_option linter.unusedVariables false
set_option maxRecDepth 100000
open Go.RowKit
attribute [local go_sem] toldUpon_value toldUpon_skip toldUpon_enter
def fourN (n : Nat) : List Nat := [n / 16777216, n / 65536 % 256, n / 256 % 256, n % 256]
def fourV (n : Nat) : Value := .agg #[.int .u8 ((n / 16777216 : Nat) : Int), .int .u8 ((n / 65536 % 256 : Nat) : Int), .int .u8 ((n / 256 % 256 : Nat) : Int), .int .u8 ((n % 256 : Nat) : Int)]
set_option maxHeartbeats 1000000 in
theorem word_any (w : World) (n : Nat) (hn : n < 4294967296) : Calls Try.prog 87 #[.int .u32 (n : Int)] w fun e w' => e = .returned (fourV n) ∧ Below w.heap.size w w' := by
  go_enter Try.func87, Try.ntmps87
  go_wp2_with fail
  exact bodyPost_ret (v := fourV n) (by simp [results, Try.results87, go_sem, fourV]) rfl ⟨rfl, (Below.refl _ _).alloc (Nat.le_refl _) _⟩
set_option maxHeartbeats 1000000 in
theorem grow_any (w : World) : Calls Try.prog 126 #[.slice none 0 0, .int .i64 8] w fun e w' => ∃ A' c', e = .returned (.slice A' 0 c') ∧ Own .u8 5 w' w.heap.size A' 0 c' [] ∧ Below w.heap.size w w' := by
  go_enter Try.func126, Try.ntmps126
  go_wp2_with fail
  go_ret
  have hge := grownCap_ge w 8 0 5
  have hle := grownCap_le_maxLen w 8 0 5 (by unfold maxLen; omega)
  refine ⟨_, _, rfl, ⟨rfl, .inr ⟨w.heap.size, _, _, rfl, Nat.le_refl _, heap_alloc_new w _, Nat.zero_le _, hle, ?_, rfl⟩⟩, ((Below.refl _ _).alloc (Nat.le_refl _) _).drew⟩
  rw [Array.size_append, size_zeroCells, size_zeroCells]
  show 8 * 1 + (grownCap w 8 0 5 - 8) * 1 = grownCap w 8 0 5 * 1
  omega
set_option maxHeartbeats 2000000 in
theorem concat_any (w : World) {gg : Nat} {A1 A2 : Option Addr} {c1 c2 : Nat} {xs ys : List Nat} (h : Bk w gg 22 #[.slice A1 4 c1, .slice A2 4 c2]) (hx : Rd .u8 w A1 4 c1 xs) (hy : Rd .u8 w A2 4 c2 ys) :
    Calls Try.prog 118 #[.slice (some ⟨gg, 0, none⟩) 2 2] w fun e w' => ∃ A' c', e = .returned (.slice A' 8 c') ∧ Own .u8 5 w' w.heap.size A' 8 c' (xs ++ ys) ∧ Below w.heap.size w w' := by
  obtain ⟨i0, hi0, hz0, hz1, hz2⟩ := info_parts info_u8
  have d0 := h.cell 0
  have d1 := h.cell 1
  have HX := Lib.hid hx
  have HY := Lib.hid hy
  have HG := Lib.hid h
  have hG := fun w' => grow_any w'
  clear hx hy h
  go_enter Try.func118, Try.ntmps118
  go_wp2_with fail
  go_loop [3, 5, 11] (fun s _ i => ∃ k : Nat, k ≤ 2 ∧ i = .int .i64 (k : Int) ∧ s = .int .i64 ((4 * k : Nat) : Int)) (fun _ _ i => 2 - (intOf i).toNat)
  case atStart => exact ⟨0, Nat.zero_le _, rfl, rfl⟩
  case round =>
    obtain ⟨k, hk, rfl, rfl⟩ := hrel
    rcases (show k = 0 ∨ k = 1 ∨ k = 2 by omega) with rfl | rfl | rfl
    · go_wp2_with fail
      go_round
      case rel => exact ⟨1, by omega, rfl, rfl⟩
      case measure => simp [intOf]
    · go_wp2_with fail
      go_round
      case rel => exact ⟨2, by omega, rfl, rfl⟩
      case measure => simp [intOf]
    · go_wp2_with (go_at_call 126; refine (hG _).mono ?_; rintro e w2 ⟨A0, c0, rfl, ho, hb⟩; have HO := Lib.hid (And.intro ho hb); clear ho hb)
      go_loopw [6, 8, 27] (fun r _ i wr => ∃ (k : Nat) (A : Option Addr) (c : Nat), k ≤ 2 ∧ i = .int .i64 (k : Int) ∧ r = .slice A (4 * k) c ∧ Own .u8 5 wr w.heap.size A (4 * k) c ((xs ++ ys).take (4 * k)) ∧ Below w.heap.size w wr) (fun _ _ i _ => 2 - (intOf i).toNat)
      case atStart => exact ⟨0, A0, c0, Nat.zero_le _, rfl, rfl, HO.out.1, HO.out.2⟩
      case round =>
        obtain ⟨k, A, c, hk, rfl, rfl, ho, hb⟩ := hrel
        have hx := HX.out.below hb
        have hy := HY.out.below hb
        have lx := hx.len
        have ly := hy.len
        have hg := HG.out.below hb HG.out.lt
        have e0 := hg.cell 0
        have e1 := hg.cell 1
        have hsz := hb.size
        have HB := Lib.hid hb
        have HO2 := Lib.hid ho
        have HXX := Lib.hid hx
        have HYY := Lib.hid hy
        clear ho hb hx hy hg
        rcases (show k = 0 ∨ k = 1 ∨ k = 2 by omega) with rfl | rfl | rfl
        · go_wp2_with (at_builtin; refine wpList_append_rd _ rfl (.tmp 31) (.tmp 32) _ rfl .u8 w.heap.size _ i0 _ 1 Try.underlying22 hi0 hz0 hz1 hz2 rfl A 0 c _ rfl HO2.out A1 4 c1 xs rfl HXX.out (by unfold maxLen; omega) (by omega) hsz ?_; intro A' c' w4 ho4 hb4 hs4 hk4; have HO4 := Lib.hid (And.intro ho4 hb4); clear ho4 hb4 hs4 hk4)
          go_roundw
          case rel => exact ⟨1, A', c', by omega, rfl, rfl, by have h := HO4.out.1; rw [show (xs ++ ys).take (4 * 0) ++ xs = (xs ++ ys).take (4 * 1) by simp [List.take_append_of_le_length, lx, List.take_of_length_le]] at h; exact h, HB.out.trans HO4.out.2⟩
          case measure => simp [intOf]
        · go_wp2_with (at_builtin; refine wpList_append_rd _ rfl (.tmp 31) (.tmp 32) _ rfl .u8 w.heap.size _ i0 _ 1 Try.underlying22 hi0 hz0 hz1 hz2 rfl A 4 c _ rfl HO2.out A2 4 c2 ys rfl HYY.out (by unfold maxLen; omega) (by omega) hsz ?_; intro A' c' w4 ho4 hb4 hs4 hk4; have HO4 := Lib.hid (And.intro ho4 hb4); clear ho4 hb4 hs4 hk4)
          go_roundw
          case rel => exact ⟨2, A', c', by omega, rfl, rfl, by have h := HO4.out.1; rw [show (xs ++ ys).take (4 * 1) ++ ys = (xs ++ ys).take (4 * 2) by rw [List.take_of_length_le (i := 4 * 2) (by simp; omega), List.take_append_of_le_length (by omega), List.take_of_length_le (by omega)]] at h; exact h, HB.out.trans HO4.out.2⟩
          case measure => simp [intOf]
        · go_wp2_with fail
          go_ret
          exact ⟨A, c, rfl, by have h := HO2.out; rw [List.take_of_length_le (by simp; omega)] at h; exact h, HB.out⟩
end Go.Proofs.Ytdmglajfmfjmlaa
namespace Go.Proofs.Ytdmglajfmfjmlaa
set_option linter.unusedSimpArgs false
set_option linter.unusedVariables false
set_option maxRecDepth 100000
open Go.RowKit
attribute [local go_sem] toldUpon_value toldUpon_skip toldUpon_enter
theorem bk_rd4 {w : World} {g : Nat} {t : TypeId} {a b c d : Nat} (h : Bk w g t #[.int .u8 (a : Int), .int .u8 (b : Int), .int .u8 (c : Int), .int .u8 (d : Int)]) : Rd .u8 w (some ⟨g, 0, none⟩) 4 4 [a, b, c, d] := by
  refine ⟨rfl, Nat.le_refl _, by omega, fun _ => ⟨_, rfl, h.lt, fun j x hx => ?_⟩⟩
  rw [ad_plain, h.cell]
  match j, hx with
  | 0, hx => simp at hx; subst hx; rfl
  | 1, hx => simp at hx; subst hx; rfl
  | 2, hx => simp at hx; subst hx; rfl
  | 3, hx => simp at hx; subst hx; rfl
  | j + 4, hx => simp at hx
theorem four_form (n : Nat) : ∃ a b c d : Nat, fourN n = [a, b, c, d] ∧ fourV n = .agg #[.int .u8 (a : Int), .int .u8 (b : Int), .int .u8 (c : Int), .int .u8 (d : Int)] := ⟨_, _, _, _, rfl, rfl⟩
def ROWu8 (xs : List Nat) (n : Nat) (w : World) (e : Ending) (w' : World) : Prop := ∃ A c, e = .returned (.slice A n c) ∧ Own .u8 5 w' w.heap.size A n c xs ∧ Below w.heap.size w w'
set_option maxHeartbeats 2000000 in
theorem pair_any (w : World) (a b : Nat) (ha : a < 4294967296) (hb : b < 4294967296) : Calls Try.prog 83 #[.int .u32 (a : Int), .int .u32 (b : Int)] w (ROWu8 (fourN a ++ fourN b) 8 w) := by
  have hA := fun w => word_any w a ha
  have hB := fun w => word_any w b hb
  obtain ⟨a0, a1, a2, a3, ea, va⟩ := four_form a
  obtain ⟨b0, b1, b2, b3, eb, vb⟩ := four_form b
  have HE := Lib.hid (And.intro ea eb)
  rw [va] at hA
  rw [vb] at hB
  clear va vb ea eb
  go_enter Try.func83, Try.ntmps83
  go_upto_region 2 with (first
    | (have _ := hk1; go_at_call 87; refine (hB _).mono ?_; rintro e w2 ⟨rfl, hb2⟩)
    | (go_at_call 87; refine (hA _).mono ?_; rintro e w1 ⟨rfl, hb1⟩; have hk1 : True := trivial))
  have hbb : Below w.heap.size w w2 := hb1.trans (hb2.mono hb1.size)
  obtain ⟨w3, hw3⟩ : ∃ x, (w2.alloc (.cells #[.int .u8 (a0 : Int), .int .u8 (a1 : Int), .int .u8 (a2 : Int), .int .u8 (a3 : Int)] 113)).alloc (.cells #[.int .u8 (b0 : Int), .int .u8 (b1 : Int), .int .u8 (b2 : Int), .int .u8 (b3 : Int)] 113) = x := ⟨_, rfl⟩
  have hb3 : Below w2.heap.size w2 w3 := by rw [← hw3]; exact ((Below.refl _ _).alloc (Nat.le_refl _) _).alloc (by simp) _
  have k1 : Bk w3 w2.heap.size 113 #[.int .u8 (a0 : Int), .int .u8 (a1 : Int), .int .u8 (a2 : Int), .int .u8 (a3 : Int)] := by rw [← hw3]; exact (Bk.new w2 _ _).alloc _
  have k2 : Bk w3 (w2.heap.size + 1) 113 #[.int .u8 (b0 : Int), .int .u8 (b1 : Int), .int .u8 (b2 : Int), .int .u8 (b3 : Int)] := by rw [← hw3]; exact Bk.at_new _ _ (by simp)
  rw [hw3]
  have K1 := Lib.hid k1
  have K2 := Lib.hid k2
  have HB3 := Lib.hid (hbb.trans (hb3.mono hbb.size))
  clear hw3 hb1 hb2 hbb hb3 k1 k2 hk1
  (refine region_told_tail 2 _ (by kernel_rfl) (by kernel_rfl) (by simp only [List.take_succ_cons, List.take_zero, putAll, Act.put, List.setIfInBounds_toArray, List.set_cons_zero, List.set_cons_succ, Nat.reduceAdd]; rfl) ?_; simp only [List.take_succ_cons, List.take_zero, List.drop_succ_cons, List.drop_zero])
  iterate 2 (refine told_step (fun v _ => v = _) (Stays.eq _) (by intro y w' hw' hd; simp only [depsOf, updG, Region.binds, Nat.reduceAdd, Nat.reduceEqDiff, if_false, if_true, and_true, true_and, forall_const, Array.toList, GTrue] at hd; (try go_split_ands); unfold toldAt; go_simp; exact ⟨Below.refl _ _, rfl⟩) ?_)
  (refine told_nil ?_; intro y w4 hw4 hd)
  have e0 : y 0 = .slice (some ⟨w2.heap.size, 0, none⟩) 4 4 := hd 0 (by decide)
  have e1 : y 1 = .slice (some ⟨w2.heap.size + 1, 0, none⟩) 4 4 := hd 1 (by decide)
  rw [e0, e1]
  have hB4 := HB3.out.trans (hw4.mono HB3.out.size)
  have hC := concat_any (w4.alloc (.cells #[.slice (some ⟨w2.heap.size, 0, none⟩) 4 4, .slice (some ⟨w2.heap.size + 1, 0, none⟩) 4 4] 22)) (Bk.new w4 _ _) ((bk_rd4 (K1.out.below hw4 K1.out.lt)).alloc _) ((bk_rd4 (K2.out.below hw4 K2.out.lt)).alloc _)
  have HB4 := Lib.hid hB4
  clear hd e0 e1 hw4 hB4
  go_wp2_with (go_at_call 118; refine hC.mono ?_; rintro e w5 ⟨A', c', rfl, ho, hb5⟩; have HO := Lib.hid (And.intro ho hb5); clear ho hb5)
  go_ret
  have hz := HB4.out.size
  have h5 := HO.out.2
  refine ⟨A', c', rfl, ?_, ?_⟩
  · rw [HE.out.1, HE.out.2]; exact HO.out.1.lower (by simp; omega)
  · exact (HB4.out.alloc hz _).trans (h5.mono (by simp; omega))
set_option maxHeartbeats 1000000 in
theorem join_any (w : World) {A B : Option Addr} {n c m d : Nat} {xs ys : List Nat} (hx : Rd .u8 w A n c xs) (hy : Rd .u8 w B m d ys) (hn : n + m ≤ 140737488355328) :
    Calls Try.prog 86 #[.slice A n c, .slice B m d] w (ROWu8 (xs ++ ys) (n + m) w) := by
  obtain ⟨i0, hi0, hz0, hz1, hz2⟩ := info_parts info_u8
  have HX := Lib.hid hx
  have HY := Lib.hid hy
  clear hx hy
  go_enter Try.func86, Try.ntmps86
  go_upto_region 3 with (at_builtin; refine wpList_append_rd _ rfl (.tmp 6) (.tmp 7) _ rfl .u8 w.heap.size _ i0 _ 1 Try.underlying22 hi0 hz0 hz1 hz2 rfl none 0 0 [] rfl (Own.nil _ _ _ _) A n c xs rfl HX.out (by unfold maxLen; omega) (by omega) (Nat.le_refl _) ?_; intro A1 c1 w1 ho1 hb1 hs1 hk1)
  have ho1' : Own .u8 5 w1 w.heap.size A1 n c1 xs := by simpa using ho1
  have hy1 := HY.out.below hb1
  have HO1 := Lib.hid ho1'
  have HY1 := Lib.hid hy1
  have HB1 := Lib.hid hb1
  clear ho1 ho1' hy1 hk1 hb1
  go_wp2_with (at_builtin; refine wpList_append_rd _ rfl (.tmp 9) (.tmp 10) _ rfl .u8 w.heap.size _ i0 _ 1 Try.underlying22 hi0 hz0 hz1 hz2 rfl A1 n c1 xs rfl HO1.out B m d ys rfl HY1.out (by unfold maxLen; omega) (by omega) hs1 ?_; intro A2 c2 w2 ho2 hb2 hs2 hk2; have HO2 := Lib.hid (And.intro ho2 hb2); clear ho2 hb2 hs2 hk2)
  go_ret
  exact ⟨A2, c2, rfl, HO2.out.1, HB1.out.trans HO2.out.2⟩
def beN (xs : List Nat) : Nat := xs.foldl (fun a x => 256 * a + x) 0
theorem beN_snoc (xs : List Nat) (x : Nat) : beN (xs ++ [x]) = 256 * beN xs + x := by unfold beN; rw [List.foldl_append]; rfl
theorem beN_take {xs : List Nat} {k : Nat} (h : k < xs.length) : beN (xs.take (k + 1)) = 256 * beN (xs.take k) + gd xs k := by
  rw [List.take_succ_eq_append_getElem h, beN_snoc, gd_lt h]
theorem beN_fold : ∀ (xs : List Nat) (a : Nat), (∀ x ∈ xs, x < 256) → xs.foldl (fun a x => 256 * a + x) a < (a + 1) * 256 ^ xs.length
  | [], a, _ => by simp
  | x :: xs, a, h => by
    have h1 := beN_fold xs (256 * a + x) (fun y hy => h y (by simp [hy]))
    have h2 := h x (by simp)
    rw [List.foldl_cons, List.length_cons, Nat.pow_succ]
    refine Nat.lt_of_lt_of_le h1 ?_
    rw [Nat.mul_comm (256 ^ xs.length) 256, ← Nat.mul_assoc]
    exact Nat.mul_le_mul_right _ (by omega)
theorem beN_lt {xs : List Nat} (h : ∀ x ∈ xs, x < 256) : beN xs < 256 ^ xs.length := by
  have := beN_fold xs 0 h
  unfold beN; omega
set_option maxHeartbeats 1000000 in
theorem pairof_any (w : World) {A : Option Addr} {n c : Nat} {xs : List Nat} (h : Rd .u8 w A n c xs) (hx : ∀ x ∈ xs, x < 256) : Calls Try.prog 82 #[.slice A n c] w fun e w' => e = .returned (.tuple #[.int .u32 ((if n = 8 then beN xs / 4294967296 else 0 : Nat) : Int), .int .u32 ((if n = 8 then beN xs % 4294967296 else 0 : Nat) : Int), .int .i64 (if n = 8 then 0 else 3)]) ∧ w = w' := by
  have hl := h.len
  by_cases h8 : n = 8
  · subst h8
    simp only [if_true]
    obtain ⟨ad, rfl, hlt, hc⟩ := h.form (by omega)
    have HX := Lib.hid hx
    have HC := Lib.hid hc
    clear h hx hc
    go_enter Try.func82, Try.ntmps82
    go_wp2_with fail
    go_loop [5, 7, 13] (fun m _ i => ∃ (k : Nat), k ≤ 8 ∧ i = .int .i64 (k : Int) ∧ m = .int .u64 ((beN (xs.take k) : Nat) : Int)) (fun _ _ i => 8 - (intOf i).toNat)
    case atStart => exact ⟨0, Nat.zero_le _, rfl, rfl⟩
    case round =>
      obtain ⟨k, hk, rfl, rfl⟩ := hrel
      rcases Nat.lt_or_ge k 8 with h0 | h0
      · have a1 : (k : Int) < 8 := by omega
        have a0 : (0 : Int) ≤ (k : Int) := by omega
        have cx := HC.out k h0
        have HT := Lib.hid (beN_take (xs := xs) (k := k) (by omega))
        have hg : gd xs k < 256 := HX.out _ (by rw [gd_lt (by omega)]; exact List.getElem_mem _)
        have hb : beN (xs.take k) < 72057594037927936 := by
          have h1 := beN_lt (xs := xs.take k) (fun x hx => HX.out x (List.mem_of_mem_take hx))
          have h2 : (xs.take k).length ≤ 7 := by rw [List.length_take]; omega
          have h3 := Nat.pow_le_pow_right (show 0 < 256 by omega) h2
          have h4 : 256 ^ 7 = 72057594037927936 := by decide
          omega
        generalize gd xs k = x at cx HT hg
        generalize beN (xs.take k) = m at HT hb ⊢
        have i1 : IntKind.i64.wrap ((k : Int) + 1) = (k : Int) + 1 := IntWalk.i64_in _ (by omega)
        have o1 : bits .or .u64 ((m : Int) * 256) (x : Int) = ((256 * m + x : Nat) : Int) := by
          rw [show (m : Int) * 256 = ((256 * m : Nat) : Int) by omega, or_u64 (by omega) (by omega), or_apart (i := 8) (by omega) (by simp [Nat.mul_mod_right])]
        go_wp2_with fail
        go_round
        case rel => exact ⟨k + 1, by omega, by go_num, congrArg (Value.int .u64) (by rw [HT.out]; omega)⟩
        case measure => simp [intOf]; omega
      · obtain rfl : k = 8 := by omega
        have HB := Lib.hid (show beN (xs.take 8) = beN xs by rw [List.take_of_length_le (by omega)])
        have hb : beN xs < 18446744073709551616 := by
          have h1 := beN_lt HX.out
          have h4 : 256 ^ 8 = 18446744073709551616 := by decide
          rw [hl, h4] at h1; exact h1
        rw [HB.out]
        obtain ⟨m, hm⟩ : ∃ m, beN xs = m := ⟨_, rfl⟩
        rw [hm] at hb ⊢
        have HM := Lib.hid hm
        clear HB hm
        go_wp2_with fail
        go_ret3
        exact ⟨by simp [HM.out, Int.natCast_ediv, Int.natCast_emod], rfl⟩
  · simp only [if_neg h8]
    have a1 : ((n : Int) == 8) = false := by simp; omega
    have a2 : ((n : Int) != 8) = true := by simp; omega
    clear h hx
    go_enter Try.func82, Try.ntmps82
    go_wp2_with fail
    go_ret3
    exact ⟨rfl, rfl⟩
end Go.Proofs.Ytdmglajfmfjmlaa
namespace Go.Proofs.Ytdmglajfmfjmlaa
set_option linter.unusedSimpArgs false
set_option linter.unusedVariables false
set_option maxRecDepth 100000
open Go.RowKit
attribute [local go_sem] toldUpon_value toldUpon_skip toldUpon_enter
theorem run_mkb (n : Nat) (hn : n ≤ 4194304) (w : World) : (Instr.makeSlice 22 (.int .i64 (n : Int)) (.int .i64 (n : Int))).run Try.prog w = .ok (.slice (some ⟨w.heap.size, 0, none⟩) n n) (w.alloc (.cells (va .u8 (List.replicate n 0)) 5)) := by
  obtain ⟨i0, hi0, hz0, hz1, hz2⟩ := info_parts info_u8
  have h := run_make (P := Try.prog) w 22 5 i0 (.int .u8 0) Try.underlying22 hi0 hz0 .i64 .i64 n n (by omega) (by omega) (by rw [hz2]; omega) (by omega)
  rw [h, hz1]
  simp only [Int.toNat_natCast, Nat.mul_one]
  rw [show (Value.int IntKind.u8 0).cells = #[.int .u8 0] from rfl, made_va]
theorem size_u8 : (Try.prog.info? 5).map (·.size) = some 1 := by kernel_rfl
theorem run_index3 (a b c : Int) (w : World) : (Instr.index 112 (.agg #[.int .u32 a, .int .u32 b, .int .u32 c]) (.int .i64 0)).run Try.prog w = .ok (.int .u32 a) w ∧ (Instr.index 112 (.agg #[.int .u32 a, .int .u32 b, .int .u32 c]) (.int .i64 1)).run Try.prog w = .ok (.int .u32 b) w ∧ (Instr.index 112 (.agg #[.int .u32 a, .int .u32 b, .int .u32 c]) (.int .i64 2)).run Try.prog w = .ok (.int .u32 c) w := by
  refine ⟨?_, ?_, ?_⟩
  all_goals simp [Instr.index, asIntOf, run_underlying Try.underlying112, part, go_sem]
def sigN (v : Vl) : List Nat := fourN v.ts ++ (fourN v.fs ++ (fourN v.n ++ v.ds))
def sg (v : Vl) (k : Nat) : List Nat := (fourN v.ts ++ (fourN v.fs ++ fourN v.n)).take (4 * k) ++ List.replicate (12 + v.n - 4 * k) 0
theorem sg_step0 (v : Vl) : splice (vs .u8 (sg v 0)) 0 (vs .u8 (fourN v.ts)) = vs .u8 (sg v 1) := by
  unfold sg splice fourN
  rw [show 12 + v.n - 4 * 0 = (8 + v.n) + 4 by omega, show 12 + v.n - 4 * 1 = 8 + v.n by omega]
  simp [vs, List.replicate_succ]
theorem sg_step1 (v : Vl) : splice (vs .u8 (sg v 1)) 4 (vs .u8 (fourN v.fs)) = vs .u8 (sg v 2) := by
  unfold sg splice fourN
  rw [show 12 + v.n - 4 * 1 = (4 + v.n) + 4 by omega, show 12 + v.n - 4 * 2 = 4 + v.n by omega]
  simp [vs, List.replicate_succ]
theorem sg_step2 (v : Vl) : splice (vs .u8 (sg v 2)) 8 (vs .u8 (fourN v.n)) = vs .u8 (sg v 3) := by
  unfold sg splice fourN
  rw [show 12 + v.n - 4 * 2 = v.n + 4 by omega, show 12 + v.n - 4 * 3 = v.n by omega]
  simp [vs, List.replicate_succ]
theorem sg_end (v : Vl) (h : v.ds.length = v.n) : splice (vs .u8 (sg v 3)) 12 (vs .u8 v.ds) = vs .u8 (sigN v) := by
  unfold sg splice fourN sigN fourN
  rw [show 12 + v.n - 4 * 3 = v.n by omega]
  simp [vs, h]
  omega
set_option maxHeartbeats 2000000 in
theorem vsigned_any (w : World) (v : Vl) (h : VR w v) (hn : v.n ≤ 1000000) : Calls Try.prog 43 #[vv v] w (ROWu8 (sigN v) (12 + v.n) w) := by
  have hA : Rd .u8 w v.A v.n v.c v.ds := h.1
  have h1 := h.2.2.1
  have h2 := h.2.2.2.1
  have HSG := Lib.hid (show sigN v = fourN v.ts ++ (fourN v.fs ++ (fourN v.n ++ v.ds)) from rfl)
  have HSK := Lib.hid (show ∀ k, sg v k = (fourN v.ts ++ (fourN v.fs ++ fourN v.n)).take (4 * k) ++ List.replicate (12 + v.n - 4 * k) 0 from fun _ => rfl)
  have HS := Lib.hid (And.intro (sg_step0 v) (And.intro (sg_step1 v) (And.intro (sg_step2 v) (sg_end v h.1.len))))
  generalize sigN v = SG at HSG HS ⊢
  generalize sg v = SK at HSK HS
  obtain ⟨ts, fs, A, n, c, ds, B, m, d, ss⟩ := v
  have hW1 := fun w => word_any w ts h1
  have hW2 := fun w => word_any w fs h2
  replace hn : n ≤ 1000000 := hn
  have hW3 := fun w => word_any w n (by omega)
  have HA := Lib.hid hA
  have i0 : IntKind.i64.wrap (12 + (n : Int)) = 12 + (n : Int) := IntWalk.i64_in _ (by omega)
  have i1 : IntKind.u32.wrap (n : Int) = (n : Int) := by rw [IntKind.wrap_u32]; omega
  have hmk := fun w => run_mkb (12 + n) (by omega) w
  simp only [show ((12 + n : Nat) : Int) = 12 + (n : Int) by omega] at hmk
  clear h hA
  unfold vv
  go_enter Try.func43, Try.ntmps43
  go_upto_region 2 with (fail)
  obtain ⟨w1, hw1⟩ : ∃ x, (w.alloc (.cells #[.int .u32 (ts : Int), .int .u32 (fs : Int), .slice A n c, .slice B m d] 66)).alloc (.cells (va .u8 (List.replicate (12 + n) 0)) 5) = x := ⟨_, rfl⟩
  have hb1 : Below w.heap.size w w1 := by rw [← hw1]; exact ((Below.refl _ _).alloc (Nat.le_refl _) _).alloc (by simp) _
  have k1 : Bk w1 w.heap.size 66 #[.int .u32 (ts : Int), .int .u32 (fs : Int), .slice A n c, .slice B m d] := by rw [← hw1]; exact (Bk.new w _ _).alloc _
  have k2 : Bk w1 (w.heap.size + 1) 5 (va .u8 (List.replicate (12 + n) 0)) := by rw [← hw1]; exact Bk.at_new _ _ (by simp)
  have c0 := k1.cell 0
  have c1 := k1.cell 1
  have c2 := k1.cell 2
  rw [hw1]
  have K1 := Lib.hid k1
  have K2 := Lib.hid k2
  have HB1 := Lib.hid hb1
  have hs1 : w.heap.size + 1 < w1.heap.size := k2.lt
  clear hw1 k1 k2 hb1 hmk i0
  go_wp2_with fail
  clear c0 c1 c2
  go_loopw [4, 5, 6, 21] (fun _ _ _ i wr => ∃ (k : Nat), k ≤ 3 ∧ i = .int .i64 (k : Int) ∧ Bk wr (w.heap.size + 1) 5 (va .u8 (SK k)) ∧ Bk wr w.heap.size 66 #[.int .u32 (ts : Int), .int .u32 (fs : Int), .slice A n c, .slice B m d] ∧ Below w.heap.size w wr) (fun _ _ _ i _ => 3 - (intOf i).toNat)
  case atStart => exact ⟨0, Nat.zero_le _, rfl, by rw [HSK.out]; simpa using K2.out, K1.out, HB1.out⟩
  case round =>
    obtain ⟨k, hk, rfl, hbk, hbv, hbel⟩ := hrel
    have hsz := hbel.size
    have hglt := hbk.lt
    have HBK := Lib.hid hbk
    have HBV := Lib.hid hbv
    have HBEL := Lib.hid hbel
    clear hbk hbv hbel K1 K2 HB1
    rcases (show k = 0 ∨ k = 1 ∨ k = 2 ∨ k = 3 by omega) with rfl | rfl | rfl | rfl
    · skip
      have hix := fun w => run_index3 (ts : Int) (fs : Int) (n : Int) w
      have hix1 := (hix wr).1
      obtain ⟨b0, b1, b2, b3, eb, vb⟩ := four_form ts
      have hw := hW1
      rw [vb] at hw
      have HE := Lib.hid eb
      clear vb eb hW1 hW2 hW3 hix
      go_upto_region 6 with (go_at_call 87; refine (hw _).mono ?_; rintro e w2 ⟨rfl, hb2⟩)
      obtain ⟨w3, hw3⟩ : ∃ q, w2.alloc (.cells #[.int .u8 (b0 : Int), .int .u8 (b1 : Int), .int .u8 (b2 : Int), .int .u8 (b3 : Int)] 113) = q := ⟨_, rfl⟩
      have hb3 : Below w2.heap.size w2 w3 := by rw [← hw3]; exact (Below.refl _ _).alloc (Nat.le_refl _) _
      have k3 : Bk w3 w2.heap.size 113 #[.int .u8 (b0 : Int), .int .u8 (b1 : Int), .int .u8 (b2 : Int), .int .u8 (b3 : Int)] := by rw [← hw3]; exact Bk.new w2 _ _
      rw [hw3]
      have hbb := hb2.trans (hb3.mono hb2.size)
      have HBB := Lib.hid hbb
      have K3 := Lib.hid k3
      have hne : w.heap.size + 1 < w2.heap.size := Nat.lt_of_lt_of_le hglt hb2.size
      have l0 : (0 : Int) ≤ (n : Int) := by omega
      have i4 : IntKind.i64.wrap 0 = 0 := by decide
      have lo : (0 : Int) ≤ 12 + (n : Int) := by omega
      have qo : ¬ 12 + n = 0 := by omega
      clear hw3 hb2 hb3 hbb k3 hw
      (refine region_told_tail 5 _ (by kernel_rfl) (by kernel_rfl) (by simp only [List.take_succ_cons, List.take_zero, putAll, Act.put, List.setIfInBounds_toArray, List.set_cons_zero, List.set_cons_succ, Nat.reduceAdd]; rfl) ?_; simp only [List.take_succ_cons, List.take_zero, List.drop_succ_cons, List.drop_zero])
      iterate 5 (refine told_step (fun v _ => v = _) (Stays.eq _) (by intro y w' hw' hd; simp only [depsOf, updG, Region.binds, Nat.reduceAdd, Nat.reduceEqDiff, if_false, if_true, and_true, true_and, forall_const, Array.toList, GTrue] at hd; (try go_split_ands); unfold toldAt; go_simp; exact ⟨Below.refl _ _, rfl⟩) ?_)
      (refine told_nil ?_; intro y w4 hw4 hd)
      have e3 : y 3 = .slice (some ⟨w.heap.size + 1, 0, none⟩) (12 + n - 0) (12 + n - 0) := hd 3 (by decide)
      have e4 : y 4 = .slice (some ⟨w2.heap.size, 0, none⟩) 4 4 := hd 4 (by decide)
      rw [e3, e4]
      have hb4 := HBB.out.trans (hw4.mono HBB.out.size)
      have hbk4 := HBK.out.below hb4 HBK.out.lt
      have hbv4 := HBV.out.below hb4 HBV.out.lt
      have hk4 := (K3.out.below hw4 K3.out.lt)
      have hrd := bk_rd4 hk4
      clear hd e3 e4
      refine wpList_copy_splice rfl (.tmp 30) (.tmp 31) 22 22 rfl 5 Try.underlying22 size_u8 (some ⟨w.heap.size + 1, 0, none⟩) (some ⟨w2.heap.size, 0, none⟩) (12 + n - 0) (12 + n - 0) 4 4 rfl rfl (w.heap.size + 1) 0 (vs .u8 (SK 0)) 5 hbk4 (vs .u8 [b0, b1, b2, b3]) (by rw [vs_length]; show 4 = min 4 (12 + n - 0); omega) (fun _ => ⟨rfl, _, rfl, hrd.cells rfl⟩) (by rw [vs_length, vs_length, HSK.out 0]; simp [fourN]; omega) (vs_one _ _) (w.heap.size + 1) wr (hb4.mono (Nat.le_of_lt hglt)) (Nat.le_refl _) ?_
      intro w5 hbk5 hb5
      have hk5 : Bk w5 (w.heap.size + 1) 5 (va .u8 (SK (0 + 1))) := by
        have hq := hbk5.out
        rw [← HE.out, HS.out.1] at hq
        exact hq
      have hv5 : Bk w5 w.heap.size 66 #[.int .u32 (ts : Int), .int .u32 (fs : Int), .slice A n c, .slice B m d] := (hb5.block _ (Nat.lt_succ_self _)).trans (HBV.out)
      have HW5 := Lib.hid (And.intro hk5 (And.intro hv5 (HBEL.out.trans (hb5.mono (Nat.le_succ _)))))
      clear hbk5 hb5 hk5 hv5 hb4 hbk4 hbv4 hk4 hrd hw4
      go_wp2_with fail
      go_roundw
      case rel => exact ⟨0 + 1, by omega, rfl, HW5.out.1, HW5.out.2.1, HW5.out.2.2⟩
      case measure => simp [intOf]
    · skip
      have hix := fun w => run_index3 (ts : Int) (fs : Int) (n : Int) w
      have hix1 := (hix wr).2.1
      obtain ⟨b0, b1, b2, b3, eb, vb⟩ := four_form fs
      have hw := hW2
      rw [vb] at hw
      have HE := Lib.hid eb
      clear vb eb hW1 hW2 hW3 hix
      go_upto_region 6 with (go_at_call 87; refine (hw _).mono ?_; rintro e w2 ⟨rfl, hb2⟩)
      obtain ⟨w3, hw3⟩ : ∃ q, w2.alloc (.cells #[.int .u8 (b0 : Int), .int .u8 (b1 : Int), .int .u8 (b2 : Int), .int .u8 (b3 : Int)] 113) = q := ⟨_, rfl⟩
      have hb3 : Below w2.heap.size w2 w3 := by rw [← hw3]; exact (Below.refl _ _).alloc (Nat.le_refl _) _
      have k3 : Bk w3 w2.heap.size 113 #[.int .u8 (b0 : Int), .int .u8 (b1 : Int), .int .u8 (b2 : Int), .int .u8 (b3 : Int)] := by rw [← hw3]; exact Bk.new w2 _ _
      rw [hw3]
      have hbb := hb2.trans (hb3.mono hb2.size)
      have HBB := Lib.hid hbb
      have K3 := Lib.hid k3
      have hne : w.heap.size + 1 < w2.heap.size := Nat.lt_of_lt_of_le hglt hb2.size
      have l0 : (0 : Int) ≤ (n : Int) := by omega
      have i4 : IntKind.i64.wrap 4 = 4 := by decide
      have lo : (4 : Int) ≤ 12 + (n : Int) := by omega
      have qo : ¬ 12 + n = 4 := by omega
      clear hw3 hb2 hb3 hbb k3 hw
      (refine region_told_tail 5 _ (by kernel_rfl) (by kernel_rfl) (by simp only [List.take_succ_cons, List.take_zero, putAll, Act.put, List.setIfInBounds_toArray, List.set_cons_zero, List.set_cons_succ, Nat.reduceAdd]; rfl) ?_; simp only [List.take_succ_cons, List.take_zero, List.drop_succ_cons, List.drop_zero])
      iterate 5 (refine told_step (fun v _ => v = _) (Stays.eq _) (by intro y w' hw' hd; simp only [depsOf, updG, Region.binds, Nat.reduceAdd, Nat.reduceEqDiff, if_false, if_true, and_true, true_and, forall_const, Array.toList, GTrue] at hd; (try go_split_ands); unfold toldAt; go_simp; exact ⟨Below.refl _ _, rfl⟩) ?_)
      (refine told_nil ?_; intro y w4 hw4 hd)
      have e3 : y 3 = .slice (some ⟨w.heap.size + 1, 4, none⟩) (12 + n - 4) (12 + n - 4) := hd 3 (by decide)
      have e4 : y 4 = .slice (some ⟨w2.heap.size, 0, none⟩) 4 4 := hd 4 (by decide)
      rw [e3, e4]
      have hb4 := HBB.out.trans (hw4.mono HBB.out.size)
      have hbk4 := HBK.out.below hb4 HBK.out.lt
      have hbv4 := HBV.out.below hb4 HBV.out.lt
      have hk4 := (K3.out.below hw4 K3.out.lt)
      have hrd := bk_rd4 hk4
      clear hd e3 e4
      refine wpList_copy_splice rfl (.tmp 30) (.tmp 31) 22 22 rfl 5 Try.underlying22 size_u8 (some ⟨w.heap.size + 1, 4, none⟩) (some ⟨w2.heap.size, 0, none⟩) (12 + n - 4) (12 + n - 4) 4 4 rfl rfl (w.heap.size + 1) 4 (vs .u8 (SK 1)) 5 hbk4 (vs .u8 [b0, b1, b2, b3]) (by rw [vs_length]; show 4 = min 4 (12 + n - 4); omega) (fun _ => ⟨rfl, _, rfl, hrd.cells rfl⟩) (by rw [vs_length, vs_length, HSK.out 1]; simp [fourN]; omega) (vs_one _ _) (w.heap.size + 1) wr (hb4.mono (Nat.le_of_lt hglt)) (Nat.le_refl _) ?_
      intro w5 hbk5 hb5
      have hk5 : Bk w5 (w.heap.size + 1) 5 (va .u8 (SK (1 + 1))) := by
        have hq := hbk5.out
        rw [← HE.out, HS.out.2.1] at hq
        exact hq
      have hv5 : Bk w5 w.heap.size 66 #[.int .u32 (ts : Int), .int .u32 (fs : Int), .slice A n c, .slice B m d] := (hb5.block _ (Nat.lt_succ_self _)).trans (HBV.out)
      have HW5 := Lib.hid (And.intro hk5 (And.intro hv5 (HBEL.out.trans (hb5.mono (Nat.le_succ _)))))
      clear hbk5 hb5 hk5 hv5 hb4 hbk4 hbv4 hk4 hrd hw4
      go_wp2_with fail
      go_roundw
      case rel => exact ⟨1 + 1, by omega, rfl, HW5.out.1, HW5.out.2.1, HW5.out.2.2⟩
      case measure => simp [intOf]
    · skip
      have hix := fun w => run_index3 (ts : Int) (fs : Int) (n : Int) w
      have hix1 := (hix wr).2.2
      obtain ⟨b0, b1, b2, b3, eb, vb⟩ := four_form n
      have hw := hW3
      rw [vb] at hw
      have HE := Lib.hid eb
      clear vb eb hW1 hW2 hW3 hix
      go_upto_region 6 with (go_at_call 87; refine (hw _).mono ?_; rintro e w2 ⟨rfl, hb2⟩)
      obtain ⟨w3, hw3⟩ : ∃ q, w2.alloc (.cells #[.int .u8 (b0 : Int), .int .u8 (b1 : Int), .int .u8 (b2 : Int), .int .u8 (b3 : Int)] 113) = q := ⟨_, rfl⟩
      have hb3 : Below w2.heap.size w2 w3 := by rw [← hw3]; exact (Below.refl _ _).alloc (Nat.le_refl _) _
      have k3 : Bk w3 w2.heap.size 113 #[.int .u8 (b0 : Int), .int .u8 (b1 : Int), .int .u8 (b2 : Int), .int .u8 (b3 : Int)] := by rw [← hw3]; exact Bk.new w2 _ _
      rw [hw3]
      have hbb := hb2.trans (hb3.mono hb2.size)
      have HBB := Lib.hid hbb
      have K3 := Lib.hid k3
      have hne : w.heap.size + 1 < w2.heap.size := Nat.lt_of_lt_of_le hglt hb2.size
      have l0 : (0 : Int) ≤ (n : Int) := by omega
      have i4 : IntKind.i64.wrap 8 = 8 := by decide
      have lo : (8 : Int) ≤ 12 + (n : Int) := by omega
      have qo : ¬ 12 + n = 8 := by omega
      clear hw3 hb2 hb3 hbb k3 hw
      (refine region_told_tail 5 _ (by kernel_rfl) (by kernel_rfl) (by simp only [List.take_succ_cons, List.take_zero, putAll, Act.put, List.setIfInBounds_toArray, List.set_cons_zero, List.set_cons_succ, Nat.reduceAdd]; rfl) ?_; simp only [List.take_succ_cons, List.take_zero, List.drop_succ_cons, List.drop_zero])
      iterate 5 (refine told_step (fun v _ => v = _) (Stays.eq _) (by intro y w' hw' hd; simp only [depsOf, updG, Region.binds, Nat.reduceAdd, Nat.reduceEqDiff, if_false, if_true, and_true, true_and, forall_const, Array.toList, GTrue] at hd; (try go_split_ands); unfold toldAt; go_simp; exact ⟨Below.refl _ _, rfl⟩) ?_)
      (refine told_nil ?_; intro y w4 hw4 hd)
      have e3 : y 3 = .slice (some ⟨w.heap.size + 1, 8, none⟩) (12 + n - 8) (12 + n - 8) := hd 3 (by decide)
      have e4 : y 4 = .slice (some ⟨w2.heap.size, 0, none⟩) 4 4 := hd 4 (by decide)
      rw [e3, e4]
      have hb4 := HBB.out.trans (hw4.mono HBB.out.size)
      have hbk4 := HBK.out.below hb4 HBK.out.lt
      have hbv4 := HBV.out.below hb4 HBV.out.lt
      have hk4 := (K3.out.below hw4 K3.out.lt)
      have hrd := bk_rd4 hk4
      clear hd e3 e4
      refine wpList_copy_splice rfl (.tmp 30) (.tmp 31) 22 22 rfl 5 Try.underlying22 size_u8 (some ⟨w.heap.size + 1, 8, none⟩) (some ⟨w2.heap.size, 0, none⟩) (12 + n - 8) (12 + n - 8) 4 4 rfl rfl (w.heap.size + 1) 8 (vs .u8 (SK 2)) 5 hbk4 (vs .u8 [b0, b1, b2, b3]) (by rw [vs_length]; show 4 = min 4 (12 + n - 8); omega) (fun _ => ⟨rfl, _, rfl, hrd.cells rfl⟩) (by rw [vs_length, vs_length, HSK.out 2]; simp [fourN]; omega) (vs_one _ _) (w.heap.size + 1) wr (hb4.mono (Nat.le_of_lt hglt)) (Nat.le_refl _) ?_
      intro w5 hbk5 hb5
      have hk5 : Bk w5 (w.heap.size + 1) 5 (va .u8 (SK (2 + 1))) := by
        have hq := hbk5.out
        rw [← HE.out, HS.out.2.2.1] at hq
        exact hq
      have hv5 : Bk w5 w.heap.size 66 #[.int .u32 (ts : Int), .int .u32 (fs : Int), .slice A n c, .slice B m d] := (hb5.block _ (Nat.lt_succ_self _)).trans (HBV.out)
      have HW5 := Lib.hid (And.intro hk5 (And.intro hv5 (HBEL.out.trans (hb5.mono (Nat.le_succ _)))))
      clear hbk5 hb5 hk5 hv5 hb4 hbk4 hbv4 hk4 hrd hw4
      go_wp2_with fail
      go_roundw
      case rel => exact ⟨2 + 1, by omega, rfl, HW5.out.1, HW5.out.2.1, HW5.out.2.2⟩
      case measure => simp [intOf]
    · clear hW1 hW2 hW3
      go_upto_region 8 with (fail)
      have C2 : ∀ w', Below wr.heap.size wr w' → w'.cell? ⟨w.heap.size, 2, none⟩ = some (.slice A n c) := fun w' h => (HBV.out.below h HBV.out.lt).cell 2
      have i4 : IntKind.i64.wrap 12 = 12 := by decide
      have lo : (12 : Int) ≤ 12 + (n : Int) := by omega
      have l0 : (0 : Int) ≤ (n : Int) := by omega
      (refine region_told_tail 4 _ (by kernel_rfl) (by kernel_rfl) (by simp only [List.take_succ_cons, List.take_zero, putAll, Act.put, List.setIfInBounds_toArray, List.set_cons_zero, List.set_cons_succ, Nat.reduceAdd]; rfl) ?_; simp only [List.take_succ_cons, List.take_zero, List.drop_succ_cons, List.drop_zero])
      iterate 4 (refine told_step (fun v _ => v = _) (Stays.eq _) (by intro y w' hw' hd; simp only [depsOf, updG, Region.binds, Nat.reduceAdd, Nat.reduceEqDiff, if_false, if_true, and_true, true_and, forall_const, Array.toList, GTrue] at hd; (try go_split_ands); unfold toldAt; go_simp; exact ⟨Below.refl _ _, rfl⟩) ?_)
      (refine told_nil ?_; intro y w4 hw4 hd)
      have e1 : y 1 = .slice (if n = 0 then some ⟨w.heap.size + 1, 0, none⟩ else some ⟨w.heap.size + 1, 12, none⟩) n n := hd 1 (by decide)
      have e3 : y 3 = .slice A n c := hd 3 (by decide)
      rw [e1, e3]
      have hbk4 := HBK.out.below hw4 HBK.out.lt
      have hrd := HA.out.below (HBEL.out.trans (hw4.mono hsz))
      have hld := hrd.len
      clear hd e1 e3
      refine wpList_copy_splice rfl (.tmp 35) (.tmp 37) 22 22 rfl 5 Try.underlying22 size_u8 (if n = 0 then some ⟨w.heap.size + 1, 0, none⟩ else some ⟨w.heap.size + 1, 12, none⟩) A n n n c rfl rfl (w.heap.size + 1) 12 (vs .u8 (SK 3)) 5 hbk4 (vs .u8 ds) (by rw [vs_length, hld]; exact (Nat.min_self n).symm) (fun h0 => ⟨if_neg (by rw [vs_length] at h0; omega), by obtain ⟨ad, h1, _⟩ := hrd.form (by rw [vs_length] at h0; omega); exact ⟨ad, h1, hrd.cells h1⟩⟩) (by rw [vs_length, vs_length, HSK.out 3]; simp [fourN]; omega) (vs_one _ _) (w.heap.size + 1) wr (hw4.mono (Nat.le_of_lt hglt)) (Nat.le_refl _) ?_
      intro w5 hbk5 hb5
      generalize (if n = 0 then some (⟨w.heap.size + 1, 0, none⟩ : Addr) else some ⟨w.heap.size + 1, 12, none⟩) = dp
      have hk5 : Bk w5 (w.heap.size + 1) 5 (va .u8 SG) := by
        have hq := hbk5.out
        rw [HS.out.2.2.2] at hq
        exact hq
      have hb5' := HBEL.out.trans (hb5.mono (Nat.le_succ _))
      have hln : SG.length = 12 + n := by
        have h1 := congrArg List.length HSG.out
        simp only [List.length_append, fourN, List.length_cons, List.length_nil] at h1
        omega
      have HF := Lib.hid (And.intro hk5 (And.intro hb5' hln))
      clear hbk5 hb5 hk5 hb5' hln hbk4 hrd hw4
      go_wp2_with fail
      go_ret
      exact ⟨_, _, rfl, Own.of_bk HF.out.1 (Nat.le_succ _) HF.out.2.2 (by omega), HF.out.2.1⟩
end Go.Proofs.Ytdmglajfmfjmlaa
namespace Go.Proofs.Ytdmglajfmfjmlaa
set_option linter.unusedSimpArgs false
set_option linter.unusedVariables false
set_option maxRecDepth 100000
open Go.RowKit
attribute [local go_sem] toldUpon_value toldUpon_skip toldUpon_enter
def v1 : Vl := ⟨1, 0, none, 0, 0, [], none, 0, 0, []⟩
theorem vv_v1 : vv v1 = .agg #[.int .u32 1, .int .u32 0, .slice none 0 0, .slice none 0 0] := rfl
theorem vv_z0 : vv z0 = .agg #[.int .u32 0, .int .u32 0, .slice none 0 0, .slice none 0 0] := rfl
theorem VR.v1 (w : World) : VR w v1 := ⟨Rd.nil _ _ _ _, Rd.nil _ _ _ _, by decide, by decide, by simp [Go.Proofs.Ytdmglajfmfjmlaa.v1], by simp [Go.Proofs.Ytdmglajfmfjmlaa.v1]⟩
theorem four_lt (n : Nat) (hn : n < 4294967296) : ∀ x ∈ fourN n, x < 256 := by
  intro x hx
  simp only [fourN, List.mem_cons, List.not_mem_nil, or_false] at hx
  omega
theorem newB_same {a b c d : Vl} (h : same a b) (h' : same c d) : newB a c = newB b d := by
  unfold newB; rw [h.1, h.2.1, h'.1, h'.2.1]
theorem has_empty (l : Lit) : Maps.has (.map [] : DataW Value) l = false := rfl
set_option maxHeartbeats 2000000 in
theorem valive_any (w : World) : Calls Try.prog 38 #[] w fun e w' => e = .returned (.bool true) ∧ Below w.heap.size w w' := by
  have hN := fun w => snew_any w 1 (by omega) (by omega)
  simp only [show ((1 : Nat) : Int) = 1 from rfl] at hN
  go_enter Try.func38, Try.ntmps38
  go_upto_region 4 with (go_at_call 80; refine (hN _).mono ?_; rintro e w1 ⟨rfl, hs1, hb1⟩)
  obtain ⟨g, hg⟩ : ∃ g, w.heap.size + 1 = g := ⟨_, rfl⟩
  rw [hg] at hs1 ⊢
  have hP1 := put_new w1 hs1 (by omega) (s := 5) (show (Lit.int .i64 5).wf = true by decide) v1 (VR.v1 _) (has_empty _) (by omega) (by decide) (by decide) (by decide)
  rw [vv_v1] at hP1
  clear hN hg
  go_upto_region 5 with (go_at_call 81; refine hP1.mono ?_; rintro e w2 ⟨v', rfl, hsm, ho, hs2, hg2⟩)
  have hsz : Maps.size ((DataW.map [] : DataW Value).put (.int .i64 5) (.held (vv v'))) = 1 := by rw [Go.Maps.size_put Go.Maps.tidy_empty]; rfl
  have hgv := gv_put (D := .map []) Go.Maps.isMap_empty 5 (vv v')
  have hh5 := Go.Maps.has_put_same (D := (.map [] : DataW Value)) Go.Maps.isMap_empty (isKey 5) (.held (vv v'))
  have hh6 : Maps.has ((DataW.map [] : DataW Value).put (.int .i64 5) (.held (vv v'))) (.int .i64 6) = false := by rw [Go.Maps.has_put_other (key_ne (by decide))]; rfl
  have hP2 := put_full w2 hs2 (s := 6) (show (Lit.int .i64 6).wf = true by decide) v1 hh6 (by omega) (by decide) (by decide) (by rw [hsz]; omega)
  have hP3 := fun w3 (h : Below w2.heap.size w2 w3) => put_old w3 (hs2.below h) (s := 5) (show (Lit.int .i64 5).wf = true by decide) v1 v' hh5 hgv (by omega) (by decide) (by decide) (by rw [newB_same (same.rfl' v1) hsm.symm]; decide)
  rw [vv_v1] at hP2 hP3
  have HB2 := Lib.hid (hb1.trans ((Below.refl w.heap.size w1).grown hg2 hb1.size (fun k hk => by cases hk; exact Nat.le_refl _)))
  clear hP1 hb1 hs1 hsz hgv hh5 hh6 hs2 hg2 ho hsm
  go_upto_region 6 with (go_at_call 81; refine hP2.mono ?_; rintro e w3 ⟨rfl, hb3⟩)
  have hP33 := hP3 w3 hb3
  clear hP2 hP3
  have HB3 := Lib.hid (HB2.out.trans (hb3.mono HB2.out.size))
  clear hb3
  have hPr := fun w => pair_any w 1 2 (by omega) (by omega)
  simp only [show ((1 : Nat) : Int) = 1 from rfl, show ((2 : Nat) : Int) = 2 from rfl] at hPr
  unfold ROWu8 at hPr
  have hpo := fun w' A c (h : Rd .u8 w' A 8 c (fourN 1 ++ fourN 2)) => pairof_any w' h (fun x hx => by
    rcases List.mem_append.1 hx with h1 | h1
    · exact four_lt 1 (by omega) x h1
    · exact four_lt 2 (by omega) x h1)
  simp only [if_true, show beN (fourN 1 ++ fourN 2) / 4294967296 = 1 by decide, show beN (fourN 1 ++ fourN 2) % 4294967296 = 2 by decide, show ((1 : Nat) : Int) = 1 from rfl, show ((2 : Nat) : Int) = 2 from rfl] at hpo
  have hSg := fun w => vsigned_any w z0 (VR.z0 w) (by decide)
  rw [vv_z0] at hSg
  unfold ROWu8 at hSg
  go_wp2_with (first
    | (go_at_call 81; refine hP33.mono ?_; rintro e w4 ⟨rfl, hb4⟩)
    | (go_at_call 83; refine (hPr _).mono ?_; rintro e w5 ⟨A5, c5, rfl, ho5, hb5⟩; have hpo5 := hpo w5 A5 c5 ho5.rd)
    | (go_at_call 82; refine hpo5.mono ?_; rintro e w6 ⟨rfl, rfl⟩)
    | (go_at_call 43; refine (hSg _).mono ?_; rintro e w7 ⟨A7, c7, rfl, ho7, hb7⟩))
  go_ret
  have q4 := HB3.out.trans (hb4.mono HB3.out.size)
  have q5 := q4.trans (hb5.mono q4.size)
  exact ⟨rfl, q5.trans (hb7.mono q5.size)⟩
end Go.Proofs.Ytdmglajfmfjmlaa
namespace Go.Proofs.Ytdmglajfmfjmlaa
set_option linter.unusedSimpArgs false
set_option linter.unusedVariables false
set_option maxRecDepth 100000
open Go.RowKit Go.Proofs.YtdmglajfmfjmlaaW.PrintWords Go.Proofs.YtdmglajfmfjmlaaW.PrintLast Go.Proofs.YtdmglajfmfjmlaaW.PrintMore
attribute [local go_sem] toldUpon_value toldUpon_skip toldUpon_enter
theorem okB_cIv {xs : List Nat} (h : ∀ x ∈ xs, x < 256) : okB (cI xs) := fun x hx => by
  simp only [cI, List.mem_map] at hx
  obtain ⟨y, hy, rfl⟩ := hx
  have := h y hy
  omega
theorem sigN_lt {v : Vl} {w : World} (h : VR w v) (hn : v.n < 4294967296) : ∀ x ∈ sigN v, x < 256 := by
  intro x hx
  unfold sigN at hx
  rcases List.mem_append.1 hx with h1 | h1
  · exact four_lt _ h.2.2.1 x h1
  rcases List.mem_append.1 h1 with h1 | h1
  · exact four_lt _ h.2.2.2.1 x h1
  rcases List.mem_append.1 h1 with h1 | h1
  · exact four_lt _ hn x h1
  · exact h.2.2.2.2.1 x h1
theorem sigN_length {v : Vl} {w : World} (h : VR w v) : (sigN v).length = 12 + v.n := by
  have := h.1.len
  unfold sigN fourN
  simp; omega
def GSgn (base : Nat) (S : List Int) (r : Int) : GFact := fun v w => ∃ A c, v = .tuple #[.slice A S.length c, .int .i64 r] ∧ Own .u8 5 w base A S.length c (toN S)
theorem GSgn.stays (base : Nat) (S : List Int) (r : Int) : Stays (GSgn base S r) := fun _ _ _ hb ⟨A, c, e, h⟩ => ⟨A, c, e, h.below hb⟩
theorem Bk.other {w : World} {g : Nat} {t : TypeId} {cs : Array Value} (h : Bk w g t cs) {p : Addr} (hp : g ≠ p.block) (u : Value) : Bk (w.setCell p u) g t cs := (Below.heap_setCell w p u g hp).trans h
set_option maxHeartbeats 4000000 in
theorem vsign_any (w : World) {v0 v1 v2 : Value} {n e d : List Int} (h0 : LI .u64 w v0 n) (h1 : LI .u64 w v1 e) (h2 : LI .u64 w v2 d) (on : okN 64 n) (oe : okN 64 e) (od : okN 64 d) (v : Vl) (hv : VR w v) (hn : v.n ≤ 2048) (hm : v.m ≤ 140737488355328)
    {S : List Int} (hr : signR (nI n) (nI e) (nI d) (cI (sigN v)) = (S, 0)) (hS : okB S) :
    Calls Try.prog 40 #[.agg #[v0, v1, v2], vv v] w fun e_ w' => ∃ v' : Vl, e_ = .returned (.tuple #[vv v', .int .i64 0]) ∧ VR w' v' ∧ v'.ts = v.ts ∧ v'.fs = v.fs ∧ v'.ds = v.ds ∧ v'.n = v.n ∧ cI v'.ss = S ∧ v'.m = S.length ∧ Below w.heap.size w w' := by
  have hsl := sigN_length hv
  have hsb := okB_cIv (sigN_lt hv (by omega))
  obtain ⟨SG, hSG⟩ : ∃ SG, sigN v = SG := ⟨_, rfl⟩
  rw [hSG] at hsl hsb hr
  obtain ⟨A0, a0, rfl, q0, b0⟩ := h0
  obtain ⟨A1, a1, rfl, q1, b1⟩ := h1
  obtain ⟨A2, a2, rfl, q2, b2⟩ := h2
  have HK := Lib.hid (And.intro (show LI .u64 w (.slice A0 n.length a0) n from ⟨_, _, rfl, q0, b0⟩) (And.intro (show LI .u64 w (.slice A1 e.length a1) e from ⟨_, _, rfl, q1, b1⟩) (show LI .u64 w (.slice A2 d.length a2) d from ⟨_, _, rfl, q2, b2⟩)))
  clear q0 b0 q1 b1 q2 b2
  obtain ⟨m0, hm0⟩ : ∃ m, n.length = m := ⟨_, rfl⟩
  obtain ⟨m1, hm1⟩ : ∃ m, e.length = m := ⟨_, rfl⟩
  obtain ⟨m2, hm2⟩ : ∃ m, d.length = m := ⟨_, rfl⟩
  rw [hm0, hm1, hm2] at HK
  rw [hm0, hm1, hm2]
  clear hm0 hm1 hm2
  have hSgn := fun w' (h : Below w.heap.size w w') => vsigned_any w' v (hv.below h) (by omega)
  have hCop := fun w' (h : Below w.heap.size w w') => copied_any w' v (hv.below h) (by omega) hm
  rw [hSG] at hSgn
  unfold ROWu8 at hSgn
  have HV := Lib.hid hv
  have HSGN := Lib.hid hSgn
  have HCOP := Lib.hid hCop
  have HR := Lib.hid hr
  clear hSgn hCop hr hv hSG
  obtain ⟨ts, fs, vA, vn, vc, ds, vB, vm, vd, ss⟩ := v
  replace hn : vn ≤ 2048 := hn
  replace hsl : SG.length = 12 + vn := hsl
  have g2048 : ¬ (2048 : Int) < (vn : Int) := by omega
  unfold vv
  go_enter Try.func40, Try.ntmps40
  go_upto_region 1 with (fail)
  obtain ⟨w1, hw1⟩ : ∃ x, ((w.alloc (.cells #[.slice A0 m0 a0, .slice A1 m1 a1, .slice A2 m2 a2] 26)).alloc (.cells #[.int .u32 (ts : Int), .int .u32 (fs : Int), .slice vA vn vc, .slice vB vm vd] 66)).alloc (.cells #[.int .u32 0, .int .u32 0, .slice none 0 0, .slice none 0 0] 66) = x := ⟨_, rfl⟩
  have hb1 : Below w.heap.size w w1 := by rw [← hw1]; exact (((Below.refl _ _).alloc (Nat.le_refl _) _).alloc (by simp) _).alloc (by simp; omega) _
  have k1 : Bk w1 w.heap.size 26 #[.slice A0 m0 a0, .slice A1 m1 a1, .slice A2 m2 a2] := by rw [← hw1]; exact ((Bk.new w _ _).alloc _).alloc _
  have k2 : Bk w1 (w.heap.size + 1) 66 #[.int .u32 (ts : Int), .int .u32 (fs : Int), .slice vA vn vc, .slice vB vm vd] := by rw [← hw1]; exact (Bk.at_new _ _ (by simp)).alloc _
  have k3 : Bk w1 (w.heap.size + 1 + 1) 66 #[.int .u32 0, .int .u32 0, .slice none 0 0, .slice none 0 0] := by rw [← hw1]; exact Bk.at_new _ _ (by simp)
  have hz : w1.heap.size = w.heap.size + 1 + 1 + 1 := by rw [← hw1]; simp
  rw [hw1]
  clear hw1
  have c2 := k2.cell 2
  go_upto_region 3 with (fail)
  clear c2
  have Z0 := fun w' (h : Below w1.heap.size w1 w') => (k1.below h k1.lt).cell 0
  have Z1 := fun w' (h : Below w1.heap.size w1 w') => (k1.below h k1.lt).cell 1
  have Z2 := fun w' (h : Below w1.heap.size w1 w') => (k1.below h k1.lt).cell 2
  have Y0 := fun w' (h : Below w1.heap.size w1 w') => (k2.below h k2.lt).cell 0
  have Y1 := fun w' (h : Below w1.heap.size w1 w') => (k2.below h k2.lt).cell 1
  have Y2 := fun w' (h : Below w1.heap.size w1 w') => (k2.below h k2.lt).cell 2
  have Y3 := fun w' (h : Below w1.heap.size w1 w') => (k2.below h k2.lt).cell 3
  have HB1 := Lib.hid hb1
  have HK23 := Lib.hid (And.intro k2 k3)
  have HZ := Lib.hid hz
  clear hb1 k1 k2 k3 hz
  (refine region_told _ (by kernel_rfl) (by kernel_rfl) (by simp only [putAll, Act.put, List.setIfInBounds_toArray, List.set_cons_zero, List.set_cons_succ, Nat.reduceAdd]; rfl) ?_)
  (refine told_step (fun v _ => v = _) (Stays.eq _) (by intro y w' hw' hd; simp only [depsOf, updG, Region.binds, Nat.reduceAdd, Nat.reduceEqDiff, if_false, if_true, and_true, true_and, forall_const, Array.toList, GTrue] at hd; have y0 := Z0 w' hw'; have y1 := Z1 w' hw'; have y2 := Z2 w' hw'; unfold toldAt; go_simp; exact ⟨Below.refl _ _, rfl⟩) ?_)
  (refine told_step (fun v _ => v = _) (Stays.eq _) (by intro y w' hw' hd; simp only [depsOf, updG, Region.binds, Nat.reduceAdd, Nat.reduceEqDiff, if_false, if_true, and_true, true_and, forall_const, Array.toList, GTrue] at hd; have y0 := Y0 w' hw'; have y1 := Y1 w' hw'; have y2 := Y2 w' hw'; have y3 := Y3 w' hw'; unfold toldAt; go_simp; exact ⟨Below.refl _ _, rfl⟩) ?_)
  (refine told_step (GRd .u8 (12 + vn) SG) (GRd.stays _ _ _) (by intro y w' hw' hd; simp only [depsOf, updG, Region.binds, Nat.reduceAdd, Nat.reduceEqDiff, if_false, if_true, and_true, true_and, forall_const, Array.toList, GTrue] at hd; (try go_split_ands); unfold toldAt; go_simp; refine ⟨Below.refl _ _, ?_⟩; exact (HSGN.out w' (HB1.out.trans (hw'.mono HB1.out.size))).mono fun e w'' ⟨A', c', he, ho, hb⟩ => ⟨_, he, hb, A', c', rfl, ho.rd⟩) ?_)
  (refine told_step (GSgn w1.heap.size S 0) (GSgn.stays _ _ _) (by intro y w' hw' hd; simp only [depsOf, updG, Region.binds, Nat.reduceAdd, Nat.reduceEqDiff, if_false, if_true, and_true, true_and, forall_const, Array.toList, GTrue] at hd; obtain ⟨_, _, A5, c5, e5, r5⟩ := hd; unfold toldAt; go_simp; refine ⟨Below.refl _ _, ?_⟩; have bl := HB1.out.trans (hw'.mono HB1.out.size); refine (sign_li (HK.out.1.below bl) (HK.out.2.1.below bl) (HK.out.2.2.below bl) (LI.of_Rd r5) on oe od hsb (by rw [cI_length]; omega) HR.out).mono ?_; rintro e w'' ⟨A6, c6, rfl, ho, hb⟩; exact ⟨_, rfl, hb, A6, c6, rfl, ho.lower hw'.size⟩) ?_)
  (refine told_step (GSgn w1.heap.size S 0) (GSgn.stays _ _ _) (by intro y w' hw' hd; simp only [depsOf, updG, Region.binds, Nat.reduceAdd, Nat.reduceEqDiff, if_false, if_true, and_true, true_and, forall_const, Array.toList, GTrue] at hd; obtain ⟨A6, c6, e6, r6⟩ := hd; unfold toldAt; go_simp; exact ⟨Below.refl _ _, A6, c6, rfl, r6⟩) ?_)
  (refine told_step (GOW .u8 5 w1.heap.size S) (GOW.stays _ _ _ _) (by intro y w' hw' hd; simp only [depsOf, updG, Region.binds, Nat.reduceAdd, Nat.reduceEqDiff, if_false, if_true, and_true, true_and, forall_const, Array.toList, GTrue] at hd; obtain ⟨A6, c6, e6, r6⟩ := hd; unfold toldAt; go_simp; exact ⟨Below.refl _ _, A6, c6, rfl, r6⟩) ?_)
  (refine told_step (fun v _ => v = .int .i64 0) (Stays.eq _) (by intro y w' hw' hd; simp only [depsOf, updG, Region.binds, Nat.reduceAdd, Nat.reduceEqDiff, if_false, if_true, and_true, true_and, forall_const, Array.toList, GTrue] at hd; obtain ⟨⟨A6, c6, e6, r6⟩, _⟩ := hd; unfold toldAt; go_simp; exact Below.refl _ _) ?_)
  (refine told_step (GOW .u8 5 w1.heap.size S) (GOW.stays _ _ _ _) (by intro y w' hw' hd; simp only [depsOf, updG, Region.binds, Nat.reduceAdd, Nat.reduceEqDiff, if_false, if_true, and_true, true_and, forall_const, Array.toList, GTrue] at hd; obtain ⟨⟨A6, c6, e6, r6⟩, _⟩ := hd; unfold toldAt; go_simp; exact ⟨Below.refl _ _, A6, c6, rfl, r6⟩) ?_)
  (refine told_step (fun v _ => v = .int .i64 0) (Stays.eq _) (by intro y w' hw' hd; simp only [depsOf, updG, Region.binds, Nat.reduceAdd, Nat.reduceEqDiff, if_false, if_true, and_true, true_and, forall_const, Array.toList, GTrue] at hd; (try go_split_ands); unfold toldAt; go_simp; exact Below.refl _ _) ?_)
  (refine told_nil ?_; intro y w2 hw2 hd)
  obtain ⟨A6, c6, e6, r6⟩ : GOW .u8 5 w1.heap.size S (y 7) w2 := hd 7 (by decide)
  have e8 : y 8 = .int .i64 0 := hd 8 (by decide)
  rw [e6, e8]
  clear hd e6 e8 Z0 Z1 Z2 Y0 Y1 Y2 Y3
  have k2 := HK23.out.1.below hw2 HK23.out.1.lt
  have k3 := HK23.out.2.below hw2 HK23.out.2.lt
  have HB2 := Lib.hid (HB1.out.trans (hw2.mono HB1.out.size))
  have HSZ := Lib.hid hw2.size
  have HR6 := Lib.hid r6
  have c0 := k2.cell 0
  have c1 := k2.cell 1
  have c2 := k2.cell 2
  have c3 := k2.cell 3
  have HK2 := Lib.hid (And.intro k2 k3)
  have hcp : Calls Try.prog 85 #[.agg #[.int .u32 (ts : Int), .int .u32 (fs : Int), .slice vA vn vc, .slice vB vm vd]] w2 fun e w' => ∃ v', e = .returned (vv v') ∧ same ⟨ts, fs, vA, vn, vc, ds, vB, vm, vd, ss⟩ v' ∧ VO w' w2.heap.size v' ∧ Below w2.heap.size w2 w' := HCOP.out w2 HB2.out
  have HCP := Lib.hid hcp
  clear hcp k2 k3 r6 hw2
  go_upto_region 6 with (fail)
  refine wp_region_lit ?_
  (refine wpList_plain rfl (fun K hK => ?_); go_simp; refine hK _ _ ?_; clear hK K)
  (refine wpList_plain rfl (fun K hK => ?_); go_simp; refine HCP.out.mono ?_; rintro e w3 ⟨v', rfl, hsm, hvo, hb3⟩; refine hK _ _ ?_; clear hK K)
  obtain ⟨ts', fs', A', n', c', ds', B', m', d', ss'⟩ := v'
  obtain ⟨hs1, hs2, hs3, _, hs5, _⟩ := hsm
  replace hs1 : ts = ts' := hs1
  replace hs2 : fs = fs' := hs2
  replace hs3 : ds = ds' := hs3
  replace hs5 : vn = n' := hs5
  subst hs1 hs2 hs3 hs5
  have hvo1 : Own .u8 5 w3 w2.heap.size A' vn c' ds := hvo.1
  clear c0 c1 c2 c3
  have k2 := HK2.out.1.below hb3 HK2.out.1.lt
  have k3 := HK2.out.2.below hb3 HK2.out.2.lt
  have hr3 := HR6.out.below hb3
  have HB3 := Lib.hid (HB2.out.trans (hb3.mono HB2.out.size))
  have HVO := Lib.hid hvo1
  have HR3 := Lib.hid hr3
  have HS3 := Lib.hid (Nat.le_trans HSZ.out hb3.size)
  have HK3 := Lib.hid (And.intro k2 k3)
  have c0 := k2.cell 0
  have c1 := k2.cell 1
  have c2 := k2.cell 2
  have c3 := k2.cell 3
  have fz : ∀ o, w3.frozen? ⟨w.heap.size + 1, o, none⟩ = false := fun o => k2.frozen o
  clear hvo hvo1 k2 k3 hr3 hb3 HCP HCOP HSGN HK2 HR6 HB2
  unfold vv
  go_upto_region 7 with (fail)
  have hz := HZ.out
  have hs3 := HS3.out
  obtain ⟨w4, hw4⟩ : ∃ z, ((((w3.setCell ⟨w.heap.size + 1, 0, none⟩ (.int .u32 (ts : Int))).setCell ⟨w.heap.size + 1, 1, none⟩ (.int .u32 (fs : Int))).setCell ⟨w.heap.size + 1, 2, none⟩ (.slice A' vn c')).setCell ⟨w.heap.size + 1, 3, none⟩ (.slice B' m' d')) = z := ⟨_, rfl⟩
  have k2 : Bk w4 (w.heap.size + 1) 66 #[.int .u32 (ts : Int), .int .u32 (fs : Int), .slice A' vn c', .slice B' m' d'] := by rw [← hw4]; exact (((HK3.out.1.set 0 _).set 1 _).set 2 _).set 3 _
  have k3 : Bk w4 (w.heap.size + 1 + 1) 66 #[.int .u32 0, .int .u32 0, .slice none 0 0, .slice none 0 0] := by rw [← hw4]; exact (((HK3.out.2.other (p := ⟨w.heap.size + 1, 0, none⟩) (by simp) _).other (p := ⟨w.heap.size + 1, 1, none⟩) (by simp) _).other (p := ⟨w.heap.size + 1, 2, none⟩) (by simp) _).other (p := ⟨w.heap.size + 1, 3, none⟩) (by simp) _
  have q : ∀ o, (⟨w.heap.size + 1, o, none⟩ : Addr).block < w1.heap.size := fun o => by show w.heap.size + 1 < _; omega
  have q2 : ∀ o, (⟨w.heap.size + 1, o, none⟩ : Addr).block < w2.heap.size := fun o => by show w.heap.size + 1 < _; have := HSZ.out; omega
  have ho : Own .u8 5 w4 w2.heap.size A' vn c' ds := by rw [← hw4]; exact (((HVO.out.low (q2 0) _).low (q2 1) _).low (q2 2) _).low (q2 3) _
  have hr : Own .u8 5 w4 w1.heap.size A6 S.length c6 (toN S) := by rw [← hw4]; exact (((HR3.out.low (q 0) _).low (q 1) _).low (q 2) _).low (q 3) _
  have hb4 : Below w.heap.size w w4 := by rw [← hw4]; exact (((HB3.out.setCell (p := ⟨w.heap.size + 1, 0, none⟩) (Nat.le_succ _) _).setCell (p := ⟨w.heap.size + 1, 1, none⟩) (Nat.le_succ _) _).setCell (p := ⟨w.heap.size + 1, 2, none⟩) (Nat.le_succ _) _).setCell (p := ⟨w.heap.size + 1, 3, none⟩) (Nat.le_succ _) _
  rw [hw4]
  clear hw4 c0 c1 c2 c3 fz HK3 HVO HR3 HB3 hs3 hz
  have d3 := k2.cell 3
  have fz : ∀ o, w4.frozen? ⟨w.heap.size + 1, o, none⟩ = false := fun o => k2.frozen o
  have HK4 := Lib.hid (And.intro k2 k3)
  have HO := Lib.hid (And.intro ho (And.intro hr hb4))
  clear k2 k3 ho hr hb4
  go_upto_region 8 with (fail)
  obtain ⟨w5, hw5⟩ : ∃ z, w4.setCell ⟨w.heap.size + 1, 3, none⟩ (.slice A6 S.length c6) = z := ⟨_, rfl⟩
  have k2 : Bk w5 (w.heap.size + 1) 66 #[.int .u32 (ts : Int), .int .u32 (fs : Int), .slice A' vn c', .slice A6 S.length c6] := by rw [← hw5]; exact HK4.out.1.set 3 _
  have k3 : Bk w5 (w.heap.size + 1 + 1) 66 #[.int .u32 0, .int .u32 0, .slice none 0 0, .slice none 0 0] := by rw [← hw5]; exact HK4.out.2.other (p := ⟨w.heap.size + 1, 3, none⟩) (by simp) _
  have ho : Own .u8 5 w5 w2.heap.size A' vn c' ds := by rw [← hw5]; exact HO.out.1.low (q2 3) _
  have hr : Own .u8 5 w5 w1.heap.size A6 S.length c6 (toN S) := by rw [← hw5]; exact HO.out.2.1.low (q 3) _
  have hb5 : Below w.heap.size w w5 := by rw [← hw5]; exact HO.out.2.2.setCell (p := ⟨w.heap.size + 1, 3, none⟩) (Nat.le_succ _) _
  rw [hw5]
  clear hw5 d3 fz HK4 HO q q2
  have c0 := k2.cell 0
  have c1 := k2.cell 1
  have c2 := k2.cell 2
  have c3 := k2.cell 3
  have d0 := k3.cell 0
  have d1 := k3.cell 1
  have d2 := k3.cell 2
  have d3 := k3.cell 3
  have fz : ∀ o, w5.frozen? ⟨w.heap.size + 1 + 1, o, none⟩ = false := fun o => k3.frozen o
  have HO := Lib.hid (And.intro ho (And.intro hr hb5))
  clear k2 k3 ho hr hb5
  go_wp2_with fail
  have hz := HZ.out
  have hz2 := HSZ.out
  have q : ∀ o, (⟨w.heap.size + 1 + 1, o, none⟩ : Addr).block < w1.heap.size := fun o => by show w.heap.size + 1 + 1 < _; omega
  have q2 : ∀ o, (⟨w.heap.size + 1 + 1, o, none⟩ : Addr).block < w2.heap.size := fun o => by show w.heap.size + 1 + 1 < _; omega
  have l0 : w.heap.size ≤ w.heap.size + 1 + 1 := by omega
  have hv := HV.out
  refine bodyPost_ret (v := .tuple #[.agg #[.int .u32 (ts : Int), .int .u32 (fs : Int), .slice A' vn c', .slice A6 S.length c6], .int .i64 0]) (by simp [results, Try.results40, go_sem, c0, c1, c2, c3, d0, d1, d2, d3]) rfl ⟨⟨ts, fs, A', vn, c', ds, A6, S.length, c6, toN S⟩, rfl, ⟨?_, ?_, hv.2.2.1, hv.2.2.2.1, hv.2.2.2.2.1, ?_⟩, rfl, rfl, rfl, rfl, cI_toN (okB_pos hS), rfl, ?_⟩
  · exact ((((HO.out.1.low (q2 0) _).low (q2 1) _).low (q2 2) _).low (q2 3) _).rd
  · exact ((((HO.out.2.1.low (q 0) _).low (q 1) _).low (q 2) _).low (q 3) _).rd
  · intro x hx; exact okB_b8 hS x hx
  · exact (((HO.out.2.2.setCell (p := ⟨w.heap.size + 1 + 1, 0, none⟩) l0 _).setCell (p := ⟨w.heap.size + 1 + 1, 1, none⟩) l0 _).setCell (p := ⟨w.heap.size + 1 + 1, 2, none⟩) l0 _).setCell (p := ⟨w.heap.size + 1 + 1, 3, none⟩) l0 _
end Go.Proofs.Ytdmglajfmfjmlaa
namespace Go.Proofs.Ytdmglajfmfjmlaa
set_option linter.unusedSimpArgs false
set_option linter.unusedVariables false
set_option maxRecDepth 100000
open Go.RowKit Go.Proofs.YtdmglajfmfjmlaaW.PrintWords Go.Proofs.YtdmglajfmfjmlaaW.PrintLast Go.Proofs.YtdmglajfmfjmlaaW.PrintMore
attribute [local go_sem] toldUpon_value toldUpon_skip toldUpon_enter
def checkR (n e d : Nat) (v : Vl) : Int := if verifyR n e d (cI (sigN v)) (cI v.ss) = true then 0 else 81
set_option maxHeartbeats 4000000 in
theorem vcheck_any (w : World) {v0 v1 v2 : Value} {n e d : List Int} (h0 : LI .u64 w v0 n) (h1 : LI .u64 w v1 e) (h2 : LI .u64 w v2 d) (on : okN 64 n) (oe : okN 64 e) (od : okN 64 d) (v : Vl) (hv : VR w v) (hn : v.n ≤ 2048) (hm : v.m ≤ 2097152) :
    Calls Try.prog 41 #[.agg #[v0, v1, v2], vv v] w (PIN (checkR (nI n) (nI e) (nI d) v) w) := by
  have hsl := sigN_length hv
  have hsb := okB_cIv (sigN_lt hv (by omega))
  have hss := okB_cIv hv.2.2.2.2.2
  obtain ⟨z, hz⟩ : ∃ z, checkR (nI n) (nI e) (nI d) v = z := ⟨_, rfl⟩
  rw [hz]
  unfold checkR at hz
  obtain ⟨q, hq⟩ : ∃ q, verifyR (nI n) (nI e) (nI d) (cI (sigN v)) (cI v.ss) = q := ⟨_, rfl⟩
  rw [hq] at hz
  obtain ⟨SG, hSG⟩ : ∃ SG, sigN v = SG := ⟨_, rfl⟩
  rw [hSG] at hsl hsb hq
  obtain ⟨A0, a0, rfl, q0, b0⟩ := h0
  obtain ⟨A1, a1, rfl, q1, b1⟩ := h1
  obtain ⟨A2, a2, rfl, q2, b2⟩ := h2
  have HK := Lib.hid (And.intro (show LI .u64 w (.slice A0 n.length a0) n from ⟨_, _, rfl, q0, b0⟩) (And.intro (show LI .u64 w (.slice A1 e.length a1) e from ⟨_, _, rfl, q1, b1⟩) (show LI .u64 w (.slice A2 d.length a2) d from ⟨_, _, rfl, q2, b2⟩)))
  clear q0 b0 q1 b1 q2 b2
  obtain ⟨m0, hm0⟩ : ∃ m, n.length = m := ⟨_, rfl⟩
  obtain ⟨m1, hm1⟩ : ∃ m, e.length = m := ⟨_, rfl⟩
  obtain ⟨m2, hm2⟩ : ∃ m, d.length = m := ⟨_, rfl⟩
  rw [hm0, hm1, hm2] at HK
  rw [hm0, hm1, hm2]
  clear hm0 hm1 hm2
  have hSgn := fun w' (h : Below w.heap.size w w') => vsigned_any w' v (hv.below h) (by omega)
  rw [hSG] at hSgn
  unfold ROWu8 at hSgn
  have HV := Lib.hid hv
  have HSGN := Lib.hid hSgn
  have HQ := Lib.hid hq
  clear hSgn hq hv hSG
  obtain ⟨ts, fs, vA, vn, vc, ds, vB, vm, vd, ss⟩ := v
  replace hn : vn ≤ 2048 := hn
  replace hm : vm ≤ 2097152 := hm
  replace hsl : SG.length = 12 + vn := hsl
  have hvb : Rd .u8 w vB vm vd ss := HV.out.2.1
  have hsl2 : ss.length = vm := hvb.len
  have HVB := Lib.hid hvb
  clear hvb HV
  have g2048 : ¬ (2048 : Int) < (vn : Int) := by omega
  unfold vv
  go_enter Try.func41, Try.ntmps41
  go_upto_region 1 with (fail)
  obtain ⟨w1, hw1⟩ : ∃ x, (w.alloc (.cells #[.slice A0 m0 a0, .slice A1 m1 a1, .slice A2 m2 a2] 26)).alloc (.cells #[.int .u32 (ts : Int), .int .u32 (fs : Int), .slice vA vn vc, .slice vB vm vd] 66) = x := ⟨_, rfl⟩
  have hb1 : Below w.heap.size w w1 := by rw [← hw1]; exact ((Below.refl _ _).alloc (Nat.le_refl _) _).alloc (by simp) _
  have k1 : Bk w1 w.heap.size 26 #[.slice A0 m0 a0, .slice A1 m1 a1, .slice A2 m2 a2] := by rw [← hw1]; exact (Bk.new w _ _).alloc _
  have k2 : Bk w1 (w.heap.size + 1) 66 #[.int .u32 (ts : Int), .int .u32 (fs : Int), .slice vA vn vc, .slice vB vm vd] := by rw [← hw1]; exact Bk.at_new _ _ (by simp)
  rw [hw1]
  clear hw1
  have c2 := k2.cell 2
  go_upto_region 3 with (fail)
  clear c2
  have Z0 := fun w' (h : Below w1.heap.size w1 w') => (k1.below h k1.lt).cell 0
  have Z1 := fun w' (h : Below w1.heap.size w1 w') => (k1.below h k1.lt).cell 1
  have Z2 := fun w' (h : Below w1.heap.size w1 w') => (k1.below h k1.lt).cell 2
  have Y0 := fun w' (h : Below w1.heap.size w1 w') => (k2.below h k2.lt).cell 0
  have Y1 := fun w' (h : Below w1.heap.size w1 w') => (k2.below h k2.lt).cell 1
  have Y2 := fun w' (h : Below w1.heap.size w1 w') => (k2.below h k2.lt).cell 2
  have Y3 := fun w' (h : Below w1.heap.size w1 w') => (k2.below h k2.lt).cell 3
  have HB1 := Lib.hid hb1
  clear hb1 k1 k2
  (refine region_told _ (by kernel_rfl) (by kernel_rfl) (by simp only [putAll, Act.put, List.setIfInBounds_toArray, List.set_cons_zero, List.set_cons_succ, Nat.reduceAdd]; rfl) ?_)
  (refine told_step (fun v _ => v = _) (Stays.eq _) (by intro y w' hw' hd; simp only [depsOf, updG, Region.binds, Nat.reduceAdd, Nat.reduceEqDiff, if_false, if_true, and_true, true_and, forall_const, Array.toList, GTrue] at hd; have y0 := Z0 w' hw'; have y1 := Z1 w' hw'; have y2 := Z2 w' hw'; unfold toldAt; go_simp; exact ⟨Below.refl _ _, rfl⟩) ?_)
  (refine told_step (fun v _ => v = _) (Stays.eq _) (by intro y w' hw' hd; simp only [depsOf, updG, Region.binds, Nat.reduceAdd, Nat.reduceEqDiff, if_false, if_true, and_true, true_and, forall_const, Array.toList, GTrue] at hd; have y0 := Y0 w' hw'; have y1 := Y1 w' hw'; have y2 := Y2 w' hw'; have y3 := Y3 w' hw'; unfold toldAt; go_simp; exact ⟨Below.refl _ _, rfl⟩) ?_)
  (refine told_step (GRd .u8 (12 + vn) SG) (GRd.stays _ _ _) (by intro y w' hw' hd; simp only [depsOf, updG, Region.binds, Nat.reduceAdd, Nat.reduceEqDiff, if_false, if_true, and_true, true_and, forall_const, Array.toList, GTrue] at hd; (try go_split_ands); unfold toldAt; go_simp; refine ⟨Below.refl _ _, ?_⟩; exact (HSGN.out w' (HB1.out.trans (hw'.mono HB1.out.size))).mono fun e w'' ⟨A', c', he, ho, hb⟩ => ⟨_, he, hb, A', c', rfl, ho.rd⟩) ?_)
  (refine told_step (fun v _ => v = _) (Stays.eq _) (by intro y w' hw' hd; simp only [depsOf, updG, Region.binds, Nat.reduceAdd, Nat.reduceEqDiff, if_false, if_true, and_true, true_and, forall_const, Array.toList, GTrue] at hd; (try go_split_ands); unfold toldAt; go_simp; exact ⟨Below.refl _ _, rfl⟩) ?_)
  (refine told_step (fun v _ => v = _) (Stays.eq _) (by intro y w' hw' hd; simp only [depsOf, updG, Region.binds, Nat.reduceAdd, Nat.reduceEqDiff, if_false, if_true, and_true, true_and, forall_const, Array.toList, GTrue] at hd; have y3 := Y3 w' hw'; unfold toldAt; go_simp; exact ⟨Below.refl _ _, rfl⟩) ?_)
  (refine told_step (fun v _ => v = .bool q) (Stays.eq _) (by intro y w' hw' hd; simp only [depsOf, updG, Region.binds, Nat.reduceAdd, Nat.reduceEqDiff, if_false, if_true, and_true, true_and, forall_const, Array.toList, GTrue] at hd; (try go_split_ands); obtain ⟨A5, c5, e5, r5⟩ : GRd .u8 (12 + vn) SG (y 2) w' := (by (with_reducible assumption)); unfold toldAt; go_simp; refine ⟨Below.refl _ _, ?_⟩; have bl := HB1.out.trans (hw'.mono HB1.out.size); have hc := verify_li (HK.out.1.below bl) (HK.out.2.1.below bl) (HK.out.2.2.below bl) (LI.of_Rd r5) (LI.of_Rd (HVB.out.below bl)) on oe od hsb (by rw [cI_length]; omega) hss (by rw [cI_length]; omega); rw [HQ.out] at hc; exact hc) ?_)
  (refine told_step (fun v _ => v = _) (Stays.eq _) (by intro y w' hw' hd; simp only [depsOf, updG, Region.binds, Nat.reduceAdd, Nat.reduceEqDiff, if_false, if_true, and_true, true_and, forall_const, Array.toList, GTrue] at hd; (try go_split_ands); unfold toldAt; go_simp; exact ⟨Below.refl _ _, rfl⟩) ?_)
  (refine told_nil ?_; intro y w' hw' hd; replace hd := hd 6 (by decide); simp only [updG, Nat.reduceAdd, Nat.reduceEqDiff, if_false, if_true] at hd)
  replace hd : y 6 = .bool (!q) := hd
  have HBF := Lib.hid (HB1.out.trans (hw'.mono HB1.out.size))
  rw [hd]
  clear hd Z0 Z1 Z2 Y0 Y1 Y2 Y3 hw'
  cases q
  · obtain rfl : z = 81 := by simpa using hz.symm
    go_wp2_with fail
    go_ret
    exact ⟨rfl, HBF.out⟩
  · obtain rfl : z = 0 := by simpa using hz.symm
    go_wp2_with fail
    go_ret
    exact ⟨rfl, HBF.out⟩
end Go.Proofs.Ytdmglajfmfjmlaa
namespace Go.Proofs.Ytdmglajfmfjmlaa
set_option linter.unusedSimpArgs false
set_option linter.unusedVariables false
set_option maxRecDepth 100000
open Go.RowKit Go.Proofs.YtdmglajfmfjmlaaW.PrintWords Go.Proofs.YtdmglajfmfjmlaaW.PrintLast
section
variable {A0 A1 : Option Addr} {c0 c1 : Nat} {l0 l1 : List Int} {w : World}
set_option maxHeartbeats 1000000 in
theorem clone64_giv {r : List Int} (hr0 : Kd.C (Kd.int .u64) w A0 l0.length l0) (hc0 : l0.length ≤ c0) (h : (if okN 262144 l0 then some l0 else none) = some r) :
    Calls Try.prog 52 #[.slice A0 l0.length c0] w fun e w' => ∃ v0_ : Value, e = .returned (v0_) ∧ Kd.R (Kd.int .u64) 40 w' w.heap.size (fun _ => True) v0_ r ∧ Below w.heap.size w w' := by
  obtain ⟨h0, rfl⟩ := of_ite h
  obtain ⟨i0, hi0, hz0, hz1, hz2⟩ := info_parts u64_info
  have hn := h0.1
  have hrd := rd_any hr0 hc0 (fun x hx => (h0.2 x hx).1)
  have hbk := back_cI (fun x hx => (h0.2 x hx).1)
  have HR := Lib.hid hrd
  have HBK := Lib.hid hbk
  have q0 := fun (w : World) (a : Option Addr) (n c : Nat) => Lib.run_eql_slice_nil (P := Try.prog) w _ _ a n c 0 0 Try.underlying24
  obtain ⟨n, hnn⟩ : ∃ n, l0.length = n := ⟨_, rfl⟩
  rw [hnn] at HR hn ⊢
  clear hr0 hc0 h hrd hbk h0
  rcases A0 with _ | ad
  · obtain rfl : n = 0 := by
      rcases Nat.eq_zero_or_pos n with h0 | h0
      · exact h0
      · obtain ⟨ad, h1, _⟩ := HR.out.form h0; cases h1
    obtain rfl : l0 = [] := List.eq_nil_of_length_eq_zero hnn
    go_enter Try.func52, Try.ntmps52
    go_wp2_with fail
    go_ret
    exact ⟨_, rfl, R_of_Own (xs := []) (Own.nil _ _ _ _) (fun _ _ => trivial), Below.refl _ _⟩
  · clear hnn
    go_enter Try.func52, Try.ntmps52
    go_upto_region 3 with (fail)
    have ho : Own .u64 40 (w.alloc (.cells #[] 40)) w.heap.size (some ⟨w.heap.size, 0, none⟩) 0 0 [] := Own.of_bk (Bk.new w _ _) (Nat.le_refl _) rfl (by omega)
    go_wp2_with (at_builtin; refine wpList_append_rd _ rfl (.tmp 5) (.tmp 6) _ rfl .u64 w.heap.size _ i0 _ 8 Try.underlying24 hi0 hz0 hz1 hz2 rfl (some ⟨w.heap.size, 0, none⟩) 0 0 [] rfl ho (some ad) n c0 _ rfl (HR.out.alloc _) (by unfold maxLen; omega) (by omega) (by simp) ?_)
    intro A' c' w4 ho4 hb4 hs4 hk4
    have HF := Lib.hid (And.intro ho4 hb4)
    clear ho4 hb4 hs4 hk4 ho
    go_wp2_with fail
    go_ret
    have hf := HF.out.1
    exact ⟨_, rfl, by have h1 := R_of_Own (ok := fun _ => True) hf (fun _ _ => trivial); rw [HBK.out] at h1; exact h1, ((Below.refl _ _).alloc (Nat.le_refl _) _).trans HF.out.2⟩
end
end Go.Proofs.Ytdmglajfmfjmlaa
namespace Go.Proofs.Ytdmglajfmfjmlaa
set_option linter.unusedSimpArgs false
set_option linter.unusedVariables false
set_option maxRecDepth 100000
open Go.RowKit Go.Proofs.YtdmglajfmfjmlaaW.PrintWords Go.Proofs.YtdmglajfmfjmlaaW.PrintLast Go.Proofs.YtdmglajfmfjmlaaW.PrintMore
attribute [local go_sem] toldUpon_value toldUpon_skip toldUpon_enter
section
variable {w : World} {v0 v1 v2 vt vs vx : Value} {n e d t s x : List Int}
theorem clone64_lo {base : Nat} (hbase : base ≤ w.heap.size) (h0 : LI .u64 w v0 n) (on : okN 262144 n) : Calls Try.prog 52 #[v0] w fun e_ w' => ∃ v, e_ = .returned v ∧ Below w.heap.size w w' ∧ GOW .u64 40 base n v w' := by
  obtain ⟨A0, c0, rfl, h0, k0⟩ := h0
  refine (clone64_giv (r := n) h0 k0 (by rw [if_pos on])).mono ?_
  rintro e_ w' ⟨v, rfl, hR, hb⟩
  obtain ⟨A, c, rfl, ho⟩ := Own.of_R hR (okN_pos on)
  exact ⟨_, rfl, hb, A, c, rfl, ho.lower hbase⟩
def GPub (n e : List Int) : GFact := fun v w => ∃ v0 v1 v2, v = .agg #[v0, v1, v2] ∧ LI .u64 w v0 n ∧ LI .u64 w v1 e ∧ LI .u64 w v2 []
theorem GPub.stays (n e : List Int) : Stays (GPub n e) := fun _ _ _ hb ⟨v0, v1, v2, h, h0, h1, h2⟩ => ⟨v0, v1, v2, h, h0.below hb, h1.below hb, h2.below hb⟩
set_option maxHeartbeats 2000000 in
theorem public_li (h0 : LI .u64 w v0 n) (h1 : LI .u64 w v1 e) (h2 : LI .u64 w v2 d) (on : okN 64 n) (oe : okN 64 e) :
    Calls Try.prog 15 #[.agg #[v0, v1, v2]] w fun e_ w' => ∃ v, e_ = .returned v ∧ Below w.heap.size w w' ∧ GPub n e v w' := by
  obtain ⟨A0, c0, rfl, h0⟩ := h0.form
  obtain ⟨A1, c1, rfl, h1⟩ := h1.form
  obtain ⟨A2, c2, rfl, h2⟩ := h2.form
  have HN := Lib.hid (KB.new (t := 26) h0 h1 h2)
  obtain ⟨wa, hwa⟩ : ∃ z, w.alloc (.cells #[.slice A0 n.length c0, .slice A1 e.length c1, .slice A2 d.length c2] 26) = z := ⟨_, rfl⟩
  rw [hwa] at HN
  clear h0 h1 h2
  obtain ⟨wb, hwb⟩ : ∃ z, wa.alloc (.cells #[.slice none 0 0, .slice none 0 0, .slice none 0 0] 26) = z := ⟨_, rfl⟩
  have hbb : Below wa.heap.size wa wb := by rw [← hwb]; exact (Below.refl _ _).alloc (Nat.le_refl _) _
  have hbk : Bk wb wa.heap.size 26 #[.slice none 0 0, .slice none 0 0, .slice none 0 0] := by rw [← hwb]; exact Bk.new wa _ _
  have HB := Lib.hid (HN.out.below hbb)
  obtain ⟨g, hg⟩ : ∃ g, wa.heap.size = g := ⟨_, rfl⟩
  have hgw : w.heap.size ≤ g := by rw [← hg]; exact HN.out.bel.size
  rw [hg] at hbk
  have hglt := hbk.lt
  have HBK := Lib.hid hbk
  have on' := on.le (m' := 262144) (by omega)
  have oe' := oe.le (m' := 262144) (by omega)
  clear hbb hbk
  go_enter Try.func15, Try.ntmps15
  go_upto_region 1 with (fail)
  have z0 := fun w' (h : Below wb.heap.size wb w') => (HB.out.below h).c0
  have z1 := fun w' (h : Below wb.heap.size wb w') => (HB.out.below h).c1
  have HC0 := Lib.hid (fun w' (h : Below wb.heap.size wb w') => clone64_lo (base := wb.heap.size) h.size (HB.out.below h).h0 on')
  have HC1 := Lib.hid (fun w' (h : Below wb.heap.size wb w') => clone64_lo (base := wb.heap.size) h.size (HB.out.below h).h1 oe')
  (refine region_told_tail 6 _ (by kernel_rfl) (by kernel_rfl) (by simp only [List.take_succ_cons, List.take_zero, putAll, Act.put, List.setIfInBounds_toArray, List.set_cons_zero, List.set_cons_succ, Nat.reduceAdd]; rfl) ?_; simp only [List.take_succ_cons, List.take_zero, List.drop_succ_cons, List.drop_zero])
  repeat (refine told_step (fun v _ => v = _) (Stays.eq _) (by intro y w' hw' hd; simp only [depsOf, updG, Region.binds, Nat.reduceAdd, Nat.reduceEqDiff, if_false, if_true, and_true, true_and, forall_const, Array.toList, GTrue] at hd; (try go_split_ands); unfold toldAt; go_simp; exact ⟨Below.refl _ _, rfl⟩) ?_)
  (refine told_step (GOW .u64 40 wb.heap.size n) ( GOW.stays _ _ _ _) (by intro y w' hw' hd; simp only [depsOf, updG, Region.binds, Nat.reduceAdd, Nat.reduceEqDiff, if_false, if_true, and_true, true_and, forall_const, Array.toList, GTrue] at hd; (try go_split_ands); unfold toldAt; go_simp; refine ⟨Below.refl _ _, ?_⟩;  exact HC0.out _ hw') ?_)
  repeat (refine told_step (fun v _ => v = _) (Stays.eq _) (by intro y w' hw' hd; simp only [depsOf, updG, Region.binds, Nat.reduceAdd, Nat.reduceEqDiff, if_false, if_true, and_true, true_and, forall_const, Array.toList, GTrue] at hd; (try go_split_ands); unfold toldAt; go_simp; exact ⟨Below.refl _ _, rfl⟩) ?_)
  (refine told_step (GOW .u64 40 wb.heap.size e) ( GOW.stays _ _ _ _) (by intro y w' hw' hd; simp only [depsOf, updG, Region.binds, Nat.reduceAdd, Nat.reduceEqDiff, if_false, if_true, and_true, true_and, forall_const, Array.toList, GTrue] at hd; (try go_split_ands); unfold toldAt; go_simp; refine ⟨Below.refl _ _, ?_⟩;  exact HC1.out _ hw') ?_)
  (refine told_nil ?_; intro y w3 hw3 hd)
  obtain ⟨B0, d0, e0, o0⟩ : GOW .u64 40 wb.heap.size n (y 2) w3 := hd 2 (by decide)
  obtain ⟨B1, d1, e1, o1⟩ : GOW .u64 40 wb.heap.size e (y 5) w3 := hd 5 (by decide)
  rw [e0, e1]
  have HO := Lib.hid (And.intro o0 o1)
  have hk3 := HBK.out.below hw3 hglt
  have HK3 := Lib.hid hk3
  have hc0 := hk3.cell 0
  have hc1 := hk3.cell 1
  have hc2 := hk3.cell 2
  have hf0 := hk3.frozen 0
  have hf1 := hk3.frozen 1
  have hf2 := hk3.frozen 2
  have HB3 := Lib.hid (HB.out.bel.trans (hw3.mono HB.out.bel.size))
  clear hd e0 e1 o0 o1 hk3 hw3 z0 z1 HC0 HC1
  go_wp2_with fail
  obtain ⟨W, hW⟩ : ∃ z, (((w3.setCell ⟨g, 0, none⟩ (.slice B0 n.length d0)).setCell ⟨g, 1, none⟩ (.slice B1 e.length d1)).setCell ⟨g, 2, none⟩ (.slice none 0 0)) = z := ⟨_, rfl⟩
  have hk := ((HK3.out.set 0 (.slice B0 n.length d0)).set 1 (.slice B1 e.length d1)).set 2 (.slice none 0 0)
  have hbel := ((HB3.out.setCell (p := ⟨g, 0, none⟩) hgw (.slice B0 n.length d0)).setCell (p := ⟨g, 1, none⟩) hgw (.slice B1 e.length d1)).setCell (p := ⟨g, 2, none⟩) hgw (.slice none 0 0)
  have o0 := ((HO.out.1.lowL (p := ⟨g, 0, none⟩) hglt (.slice B0 n.length d0)).lowL (p := ⟨g, 1, none⟩) hglt (.slice B1 e.length d1)).lowL (p := ⟨g, 2, none⟩) hglt (.slice none 0 0)
  have o1 := ((HO.out.2.lowL (p := ⟨g, 0, none⟩) hglt (.slice B0 n.length d0)).lowL (p := ⟨g, 1, none⟩) hglt (.slice B1 e.length d1)).lowL (p := ⟨g, 2, none⟩) hglt (.slice none 0 0)
  rw [hW] at hk hbel o0 o1 ⊢
  have r0 := hk.cell 0
  have r1 := hk.cell 1
  have r2 := hk.cell 2
  have f0 := LI.of_Rdl o0.rd (okN_pos on)
  have f1 := LI.of_Rdl o1.rd (okN_pos oe)
  clear hW hc0 hc1 hc2 hf0 hf1 hf2 hk o0 o1
  exact bodyPost_ret (v := .agg #[.slice B0 n.length d0, .slice B1 e.length d1, .slice none 0 0]) (by simp [results, Try.results15, go_sem, r0, r1, r2]) rfl ⟨_, rfl, hbel, _, _, _, rfl, f0, f1, LI.nil _ _⟩
end
end Go.Proofs.Ytdmglajfmfjmlaa
namespace Go.Proofs.Ytdmglajfmfjmlaa
set_option linter.unusedSimpArgs false
set_option linter.unusedVariables false
set_option maxRecDepth 100000
open Go.RowKit Go.Proofs.YtdmglajfmfjmlaaW.PrintWords Go.Proofs.YtdmglajfmfjmlaaW.PrintLast Go.Proofs.YtdmglajfmfjmlaaW.PrintMore
attribute [local go_sem] toldUpon_value toldUpon_skip toldUpon_enter
def bs12 : List Nat := [2, 3, 5, 7, 11, 13, 17, 19, 23, 29, 31, 37]
def mayB (x : Nat) : Bool := decide (blen x ≤ 512) && primeN x bs12
theorem bases_li (w : World) : Calls Try.prog 97 #[] w (PLI .u64 (cI bs12) w) := by
  go_enter Try.func97, Try.ntmps97
  go_wp2_with fail
  go_ret
  have hb : Below w.heap.size w (w.alloc (.cells (va .u64 bs12) 40)) := (Below.refl _ _).alloc (Nat.le_refl _) _
  exact ⟨_, rfl, hb, LI.of_Rd (Own.of_bk (k := .u64) (xs := bs12) (base := 0) (Bk.new w 40 (va .u64 bs12)) (by omega) rfl (by decide)).rd⟩
section
variable {w : World} {v0 v1 : Value} {a b : List Int}
theorem may_li (h0 : LI .u64 w v0 a) (oa : okN 64 a) : Calls Try.prog 57 #[v0] w (PBO (mayB (nI a)) w) := by
  have HB := Lib.hid (bits_li h0 (oa.le (by omega)))
  have H0 := Lib.hid h0
  have HP := Lib.hid (fun w' v (h : Below w.heap.size w w') (hv : LI .u64 w' v (cI bs12)) => primes_li (H0.out.below h) hv (oa.le (by omega)) (by decide))
  rw [toN_cI] at HP
  have hM : mayB (nI a) = (decide (blen (nI a) ≤ 512) && primeN (nI a) bs12) := rfl
  obtain ⟨z, hz⟩ : ∃ z : Int, ((blen (nI a) : Nat) : Int) = z := ⟨_, rfl⟩
  rw [hz] at HB
  have K : ∀ r, mayB (nI a) = r → Calls Try.prog 57 #[v0] w (PBO r w) → Calls Try.prog 57 #[v0] w (PBO (mayB (nI a)) w) := fun r h h' => by rw [h]; exact h'
  by_cases h1 : z ≤ 512
  · refine K _ (by rw [hM, decide_eq_true (by omega : blen (nI a) ≤ 512), Bool.true_and]) ?_
    generalize primeN (nI a) bs12 = p at HP ⊢
    clear h0 oa hM hz K
    go_enter Try.func57, Try.ntmps57
    go_wp2_with (first
      | (go_at_call 19; refine HB.out.mono ?_; rintro e_ w1 ⟨rfl, hb1⟩)
      | (go_at_call 97; refine (bases_li _).mono ?_; rintro e_ w2 ⟨v, rfl, hb2, hv⟩)
      | (go_at_call 70; refine (HP.out _ _ (hb1.trans (hb2.mono hb1.size)) hv).mono ?_; rintro e_ w3 ⟨rfl, hb3⟩))
    go_ret
    have p2 := hb1.trans (hb2.mono hb1.size)
    exact ⟨rfl, p2.trans (hb3.mono p2.size)⟩
  · refine K false (by rw [hM, decide_eq_false (by omega), Bool.false_and]) ?_
    clear h0 oa hM hz K
    go_enter Try.func57, Try.ntmps57
    go_wp2_with (go_at_call 19; refine HB.out.mono ?_; rintro e_ w1 ⟨rfl, hb1⟩)
    go_ret
    exact ⟨rfl, hb1⟩
theorem okN_1 {m : Nat} (hm : 1 ≤ m) : okN m (ofN 1) := okN_ofN (Nat.le_trans (ln_small (by omega)) hm)
theorem less_li (h0 : LI .u64 w v0 a) (oa : okN 262144 a) : Calls Try.prog 56 #[v0] w (PLI .u64 (ofN (nI a - 1)) w) := by
  have H0 := Lib.hid h0
  have HO := of_li 1 (by omega)
  simp only [show ((1 : Nat) : Int) = 1 from rfl] at HO
  have HS := Lib.hid (fun w' v (h : Below w.heap.size w w') (hv : LI .u64 w' v (ofN 1)) => sub_li (H0.out.below h) hv oa (okN_1 (by omega)))
  rw [nI_ofN] at HS
  generalize (if nI a < 1 then (10 : Int) else 0) = er at HS
  generalize ofN (nI a - 1) = R at HS ⊢
  generalize ofN 1 = L1 at HO HS
  have HOO := Lib.hid HO
  clear h0 oa HO
  go_enter Try.func56, Try.ntmps56
  go_wp2_with (first
    | (go_at_call 22; refine (HOO.out _).mono ?_; rintro e_ w1 ⟨v, rfl, hb1, hv⟩)
    | (go_at_call 69; refine (HS.out _ _ hb1 hv).mono ?_; rintro e_ w2 ⟨u, rfl, hb2, hu⟩))
  go_ret
  exact ⟨u, rfl, hb1.trans (hb2.mono hb1.size), hu⟩
end
def PLO (k : IntKind) (e : TypeId) (l : List Int) (w : World) (e_ : Ending) (w' : World) : Prop := ∃ A c, e_ = .returned (.slice A l.length c) ∧ Below w.heap.size w w' ∧ Own k e w' w.heap.size A l.length c (toN l)
section
variable {w : World} {v0 v1 : Value} {a b : List Int}
theorem of_lo (x : Nat) (hx : x < 18446744073709551616) (w : World) : Calls Try.prog 22 #[.int .u64 (x : Int)] w (PLO .u64 40 (ofN x) w) := by
  refine (of_giv (a0 := (x : Int)) (r := ofN x) (by rw [if_pos ⟨by omega, by omega⟩, Int.toNat_natCast])).mono ?_
  rintro e w' ⟨v, rfl, hR, hb⟩
  obtain ⟨A, c, rfl, ho⟩ := Own.of_R hR (okN_pos (okN_ofN (m := 1) (ln_small hx)))
  exact ⟨A, c, rfl, hb, ho⟩
theorem mul_lo (h0 : LI .u64 w v0 a) (h1 : LI .u64 w v1 b) (oa : okN 262144 a) (ob : okN 262144 b) {m : Nat} (hm : ln (nI a * nI b) ≤ m) : Calls Try.prog 75 #[v0, v1] w (PLO .u64 40 (ofN (nI a * nI b)) w) := by
  obtain ⟨A0, c0, rfl, h0, k0⟩ := h0
  obtain ⟨A1, c1, rfl, h1, k1⟩ := h1
  refine (mul_giv h0 k0 h1 k1 (by rw [if_pos ⟨oa, ob⟩])).mono ?_
  rintro e w' ⟨v, rfl, hR, hb⟩
  obtain ⟨A, c, rfl, ho⟩ := Own.of_R hR (okN_pos (okN_ofN (m := m) hm))
  exact ⟨A, c, rfl, hb, ho⟩
theorem inverse_lo (h0 : LI .u64 w v0 a) (h1 : LI .u64 w v1 b) (oa : okN 65536 a) (ob : okN 65536 b) {r : List Int × Int} (hr : invR (nI a) (nI b) = r) (hp : ∀ x ∈ r.1, 0 ≤ x) : Calls Try.prog 77 #[v0, v1] w fun e_ w' => ∃ A c, e_ = .returned (.tuple #[.slice A r.1.length c, .int .i64 r.2]) ∧ Below w.heap.size w w' ∧ Own .u64 40 w' w.heap.size A r.1.length c (toN r.1) := by
  obtain ⟨A0, c0, rfl, h0, k0⟩ := h0
  obtain ⟨A1, c1, rfl, h1, k1⟩ := h1
  refine (inverse_giv (r1 := r.1) (r2 := r.2) h0 k0 h1 k1 (by rw [if_pos ⟨oa, ob⟩, hr])).mono ?_
  rintro e w' ⟨v, rfl, hR, hb⟩
  obtain ⟨A, c, rfl, ho⟩ := Own.of_R hR hp
  exact ⟨A, c, rfl, hb, ho⟩
end
def makeR (p q e : Nat) : (List Int × List Int × List Int) × Int :=
  if mayB p = true ∧ mayB q = true ∧ p ≠ q ∧ e % 2 = 1 ∧ 3 ≤ e ∧ (invR e ((p - 1) * (q - 1))).2 = 0 ∧ keyR (p * q) e (invN e ((p - 1) * (q - 1))) = 0 then ((ofN (p * q), ofN e, ofN (invN e ((p - 1) * (q - 1)))), 0) else (([], [], []), 50)
theorem ofN_nn (m : Nat) : ∀ x ∈ ofN m, 0 ≤ x := by
  intro x hx
  simp only [ofN, List.mem_map] at hx
  obtain ⟨y, _, rfl⟩ := hx
  omega
theorem invR_nn (a n : Nat) : ∀ x ∈ (invR a n).1, 0 ≤ x := by
  unfold invR
  split
  · simp
  · split
    · exact ofN_nn _
    · simp
theorem GLI.li {k : IntKind} {l : List Int} {v : Value} {w : World} (h : GLI k l v w) : LI k w v l := h
theorem ln_of_blenL {n k : Nat} (h : blen n ≤ 64 * k) : ln n ≤ k := ln_le.2 (by
  rw [show (18446744073709551616 : Nat) = 2 ^ 64 by decide, ← Nat.pow_mul]; exact blen_le.1 h)
theorem makeR_err {p q e : Nat} (h : ¬ (mayB p = true ∧ mayB q = true ∧ p ≠ q ∧ e % 2 = 1 ∧ 3 ≤ e ∧ (invR e ((p - 1) * (q - 1))).2 = 0 ∧ keyR (p * q) e (invN e ((p - 1) * (q - 1))) = 0)) {N E D : List Int} {r : Int} (hr : makeR p q e = ((N, E, D), r)) : N = [] ∧ E = [] ∧ D = [] ∧ r = 50 := by
  unfold makeR at hr
  rw [if_neg h] at hr
  simp only [Prod.mk.injEq] at hr
  exact ⟨hr.1.1.symm, hr.1.2.1.symm, hr.1.2.2.symm, hr.2.symm⟩
def PK3 (N E D : List Int) (r : Int) (w : World) (e_ : Ending) (w' : World) : Prop := ∃ A1 c1 A2 c2 A3 c3, e_ = .returned (.tuple #[.agg #[.slice A1 N.length c1, .slice A2 E.length c2, .slice A3 D.length c3], .int .i64 r]) ∧
  Own .u64 40 w' w.heap.size A1 N.length c1 (toN N) ∧ Own .u64 40 w' w.heap.size A2 E.length c2 (toN E) ∧ Own .u64 40 w' w.heap.size A3 D.length c3 (toN D) ∧ Below w.heap.size w w'
structure RB (w wa : World) (g : Nat) : Prop where
  bk : Bk wa g 26 #[.slice none 0 0, .slice none 0 0, .slice none 0 0]
  bel : Below w.heap.size w wa
theorem RB.below {w wa w' : World} {g : Nat} (h : RB w wa g) (hb : Below wa.heap.size wa w') : RB w w' g := ⟨h.bk.below hb h.bk.lt, h.bel.trans (hb.mono h.bel.size)⟩
section
variable {w : World} {v0 v1 : Value} {a b : List Int}
set_option maxHeartbeats 8000000 in
theorem make_lo (h0 : LI .u64 w v0 a) (h1 : LI .u64 w v1 b) (oa : okN 64 a) (ob : okN 64 b) {e : Nat} (he : e < 18446744073709551616) {N E D : List Int} {r : Int} (hr : makeR (nI a) (nI b) e = ((N, E, D), r)) :
    Calls Try.prog 47 #[v0, v1, .int .u64 (e : Int)] w (PK3 N E D r w) := by
  obtain ⟨wa, hwa⟩ : ∃ z, w.alloc (.cells #[.slice none 0 0, .slice none 0 0, .slice none 0 0] 26) = z := ⟨_, rfl⟩
  have hba : Below w.heap.size w wa := by rw [← hwa]; exact (Below.refl _ _).alloc (Nat.le_refl _) _
  have hg : w.heap.size < wa.heap.size := by rw [← hwa]; simp
  have HK := Lib.hid (show RB w wa w.heap.size from ⟨by rw [← hwa]; exact Bk.new w _ _, hba⟩)
  have HX := Lib.hid (Below.refl wa.heap.size wa)
  have H0 := Lib.hid (h0.below hba)
  have H1 := Lib.hid (h1.below hba)
  have HM0 := Lib.hid (fun w' (h : Below wa.heap.size wa w') => may_li (H0.out.below h) oa)
  have HM1 := Lib.hid (fun w' (h : Below wa.heap.size wa w') => may_li (H1.out.below h) ob)
  have HC := Lib.hid (fun w' (h : Below wa.heap.size wa w') => cmp_li (H0.out.below h) (H1.out.below h) (oa.le (by omega)) (ob.le (by omega)))
  obtain ⟨q, hq⟩ : ∃ q : Int, cmpN (nI a) (nI b) = q := ⟨_, rfl⟩
  rw [hq] at HC
  have hq0 : q = 0 ↔ nI a = nI b := by rw [← hq]; unfold cmpN; split <;> (try split) <;> omega
  have f0 := HK.out.bk.frozen 0
  have f1 := HK.out.bk.frozen 1
  have f2 := HK.out.bk.frozen 2
  have k0 := HK.out.bk.cell 0
  have k1 := HK.out.bk.cell 1
  have k2 := HK.out.bk.cell 2
  have hand : Go.bits .and .u64 (e : Int) 1 = ((e % 2 : Nat) : Int) := by
    rw [show (1 : Int) = ((1 : Nat) : Int) from rfl, and_u64 he (by omega), Nat.and_one_is_mod]
  cases m0 : mayB (nI a) with
  | false =>
    obtain ⟨rfl, rfl, rfl, rfl⟩ := makeR_err (fun h => by rw [m0] at h; cases h.1) hr
    rw [m0] at HM0
    clear hand hq0 hq hr m0
    go_enter Try.func47, Try.ntmps47
    go_wp2_with (first
      | (go_at_call 57; (with_reducible refine (HM0.out _ HX.out).mono ?_); rintro e_ w1 ⟨rfl, hb⟩; replace HK := Lib.hid (HK.out.below hb); replace HX := Lib.hid (HX.out.trans (hb.mono HX.out.size)); clear hb f0 f1 f2 k0 k1 k2; have f0 := HK.out.bk.frozen 0; have f1 := HK.out.bk.frozen 1; have f2 := HK.out.bk.frozen 2; have k0 := HK.out.bk.cell 0; have k1 := HK.out.bk.cell 1; have k2 := HK.out.bk.cell 2)
      | (go_at_call 57; (with_reducible refine (HM1.out _ HX.out).mono ?_); rintro e_ w1 ⟨rfl, hb⟩; replace HK := Lib.hid (HK.out.below hb); replace HX := Lib.hid (HX.out.trans (hb.mono HX.out.size)); clear hb f0 f1 f2 k0 k1 k2; have f0 := HK.out.bk.frozen 0; have f1 := HK.out.bk.frozen 1; have f2 := HK.out.bk.frozen 2; have k0 := HK.out.bk.cell 0; have k1 := HK.out.bk.cell 1; have k2 := HK.out.bk.cell 2)
      | (go_at_call 33; (with_reducible refine (HC.out _ HX.out).mono ?_); rintro e_ w1 ⟨rfl, hb⟩; replace HK := Lib.hid (HK.out.below hb); replace HX := Lib.hid (HX.out.trans (hb.mono HX.out.size)); clear hb f0 f1 f2 k0 k1 k2; have f0 := HK.out.bk.frozen 0; have f1 := HK.out.bk.frozen 1; have f2 := HK.out.bk.frozen 2; have k0 := HK.out.bk.cell 0; have k1 := HK.out.bk.cell 1; have k2 := HK.out.bk.cell 2))
    obtain ⟨W, hW⟩ : ∃ z, (((w1.setCell ⟨w.heap.size, 0, none⟩ (.slice none 0 0)).setCell ⟨w.heap.size, 1, none⟩ (.slice none 0 0)).setCell ⟨w.heap.size, 2, none⟩ (.slice none 0 0)) = z := ⟨_, rfl⟩
    have hk := ((HK.out.bk.set 0 (.slice none 0 0)).set 1 (.slice none 0 0)).set 2 (.slice none 0 0)
    have hbel := ((HK.out.bel.setCell (p := ⟨w.heap.size, 0, none⟩) (Nat.le_refl _) (.slice none 0 0)).setCell (p := ⟨w.heap.size, 1, none⟩) (Nat.le_refl _) (.slice none 0 0)).setCell (p := ⟨w.heap.size, 2, none⟩) (Nat.le_refl _) (.slice none 0 0)
    rw [hW] at hk hbel ⊢
    have r0 := hk.cell 0
    have r1 := hk.cell 1
    have r2 := hk.cell 2
    exact bodyPost_ret (v := .tuple #[.agg #[.slice none 0 0, .slice none 0 0, .slice none 0 0], .int .i64 50]) (by simp [results, Try.results47, go_sem, r0, r1, r2]) rfl ⟨none, 0, none, 0, none, 0, rfl, Own.nil _ _ _ _, Own.nil _ _ _ _, Own.nil _ _ _ _, hbel⟩
  | true =>
  rw [m0] at HM0
  cases m1 : mayB (nI b) with
  | false =>
    obtain ⟨rfl, rfl, rfl, rfl⟩ := makeR_err (fun h => by rw [m1] at h; cases h.2.1) hr
    rw [m1] at HM1
    clear hand hq0 hq hr m0 m1
    go_enter Try.func47, Try.ntmps47
    go_wp2_with (first
      | (go_at_call 57; (with_reducible refine (HM0.out _ HX.out).mono ?_); rintro e_ w1 ⟨rfl, hb⟩; replace HK := Lib.hid (HK.out.below hb); replace HX := Lib.hid (HX.out.trans (hb.mono HX.out.size)); clear hb f0 f1 f2 k0 k1 k2; have f0 := HK.out.bk.frozen 0; have f1 := HK.out.bk.frozen 1; have f2 := HK.out.bk.frozen 2; have k0 := HK.out.bk.cell 0; have k1 := HK.out.bk.cell 1; have k2 := HK.out.bk.cell 2)
      | (go_at_call 57; (with_reducible refine (HM1.out _ HX.out).mono ?_); rintro e_ w1 ⟨rfl, hb⟩; replace HK := Lib.hid (HK.out.below hb); replace HX := Lib.hid (HX.out.trans (hb.mono HX.out.size)); clear hb f0 f1 f2 k0 k1 k2; have f0 := HK.out.bk.frozen 0; have f1 := HK.out.bk.frozen 1; have f2 := HK.out.bk.frozen 2; have k0 := HK.out.bk.cell 0; have k1 := HK.out.bk.cell 1; have k2 := HK.out.bk.cell 2)
      | (go_at_call 33; (with_reducible refine (HC.out _ HX.out).mono ?_); rintro e_ w1 ⟨rfl, hb⟩; replace HK := Lib.hid (HK.out.below hb); replace HX := Lib.hid (HX.out.trans (hb.mono HX.out.size)); clear hb f0 f1 f2 k0 k1 k2; have f0 := HK.out.bk.frozen 0; have f1 := HK.out.bk.frozen 1; have f2 := HK.out.bk.frozen 2; have k0 := HK.out.bk.cell 0; have k1 := HK.out.bk.cell 1; have k2 := HK.out.bk.cell 2))
    obtain ⟨W, hW⟩ : ∃ z, (((w1.setCell ⟨w.heap.size, 0, none⟩ (.slice none 0 0)).setCell ⟨w.heap.size, 1, none⟩ (.slice none 0 0)).setCell ⟨w.heap.size, 2, none⟩ (.slice none 0 0)) = z := ⟨_, rfl⟩
    have hk := ((HK.out.bk.set 0 (.slice none 0 0)).set 1 (.slice none 0 0)).set 2 (.slice none 0 0)
    have hbel := ((HK.out.bel.setCell (p := ⟨w.heap.size, 0, none⟩) (Nat.le_refl _) (.slice none 0 0)).setCell (p := ⟨w.heap.size, 1, none⟩) (Nat.le_refl _) (.slice none 0 0)).setCell (p := ⟨w.heap.size, 2, none⟩) (Nat.le_refl _) (.slice none 0 0)
    rw [hW] at hk hbel ⊢
    have r0 := hk.cell 0
    have r1 := hk.cell 1
    have r2 := hk.cell 2
    exact bodyPost_ret (v := .tuple #[.agg #[.slice none 0 0, .slice none 0 0, .slice none 0 0], .int .i64 50]) (by simp [results, Try.results47, go_sem, r0, r1, r2]) rfl ⟨none, 0, none, 0, none, 0, rfl, Own.nil _ _ _ _, Own.nil _ _ _ _, Own.nil _ _ _ _, hbel⟩
  | true =>
  rw [m1] at HM1
  by_cases hqz : q = 0
  · obtain ⟨rfl, rfl, rfl, rfl⟩ := makeR_err (fun h => h.2.2.1 (hq0.1 hqz)) hr
    subst hqz
    clear hand hq0 hq hr m0 m1
    go_enter Try.func47, Try.ntmps47
    go_wp2_with (first
      | (go_at_call 57; (with_reducible refine (HM0.out _ HX.out).mono ?_); rintro e_ w1 ⟨rfl, hb⟩; replace HK := Lib.hid (HK.out.below hb); replace HX := Lib.hid (HX.out.trans (hb.mono HX.out.size)); clear hb f0 f1 f2 k0 k1 k2; have f0 := HK.out.bk.frozen 0; have f1 := HK.out.bk.frozen 1; have f2 := HK.out.bk.frozen 2; have k0 := HK.out.bk.cell 0; have k1 := HK.out.bk.cell 1; have k2 := HK.out.bk.cell 2)
      | (go_at_call 57; (with_reducible refine (HM1.out _ HX.out).mono ?_); rintro e_ w1 ⟨rfl, hb⟩; replace HK := Lib.hid (HK.out.below hb); replace HX := Lib.hid (HX.out.trans (hb.mono HX.out.size)); clear hb f0 f1 f2 k0 k1 k2; have f0 := HK.out.bk.frozen 0; have f1 := HK.out.bk.frozen 1; have f2 := HK.out.bk.frozen 2; have k0 := HK.out.bk.cell 0; have k1 := HK.out.bk.cell 1; have k2 := HK.out.bk.cell 2)
      | (go_at_call 33; (with_reducible refine (HC.out _ HX.out).mono ?_); rintro e_ w1 ⟨rfl, hb⟩; replace HK := Lib.hid (HK.out.below hb); replace HX := Lib.hid (HX.out.trans (hb.mono HX.out.size)); clear hb f0 f1 f2 k0 k1 k2; have f0 := HK.out.bk.frozen 0; have f1 := HK.out.bk.frozen 1; have f2 := HK.out.bk.frozen 2; have k0 := HK.out.bk.cell 0; have k1 := HK.out.bk.cell 1; have k2 := HK.out.bk.cell 2))
    obtain ⟨W, hW⟩ : ∃ z, (((w1.setCell ⟨w.heap.size, 0, none⟩ (.slice none 0 0)).setCell ⟨w.heap.size, 1, none⟩ (.slice none 0 0)).setCell ⟨w.heap.size, 2, none⟩ (.slice none 0 0)) = z := ⟨_, rfl⟩
    have hk := ((HK.out.bk.set 0 (.slice none 0 0)).set 1 (.slice none 0 0)).set 2 (.slice none 0 0)
    have hbel := ((HK.out.bel.setCell (p := ⟨w.heap.size, 0, none⟩) (Nat.le_refl _) (.slice none 0 0)).setCell (p := ⟨w.heap.size, 1, none⟩) (Nat.le_refl _) (.slice none 0 0)).setCell (p := ⟨w.heap.size, 2, none⟩) (Nat.le_refl _) (.slice none 0 0)
    rw [hW] at hk hbel ⊢
    have r0 := hk.cell 0
    have r1 := hk.cell 1
    have r2 := hk.cell 2
    exact bodyPost_ret (v := .tuple #[.agg #[.slice none 0 0, .slice none 0 0, .slice none 0 0], .int .i64 50]) (by simp [results, Try.results47, go_sem, r0, r1, r2]) rfl ⟨none, 0, none, 0, none, 0, rfl, Own.nil _ _ _ _, Own.nil _ _ _ _, Own.nil _ _ _ _, hbel⟩
  have hqn : (q == 0) = false := by rw [beq_eq_false_iff_ne]; exact hqz
  rcases Nat.mod_two_eq_zero_or_one e with e2 | e2
  · obtain ⟨rfl, rfl, rfl, rfl⟩ := makeR_err (fun h => by have := h.2.2.2.1; omega) hr
    rw [e2] at hand
    clear hq0 hq hr m0 m1 e2 hqz
    go_enter Try.func47, Try.ntmps47
    go_wp2_with (first
      | (go_at_call 57; (with_reducible refine (HM0.out _ HX.out).mono ?_); rintro e_ w1 ⟨rfl, hb⟩; replace HK := Lib.hid (HK.out.below hb); replace HX := Lib.hid (HX.out.trans (hb.mono HX.out.size)); clear hb f0 f1 f2 k0 k1 k2; have f0 := HK.out.bk.frozen 0; have f1 := HK.out.bk.frozen 1; have f2 := HK.out.bk.frozen 2; have k0 := HK.out.bk.cell 0; have k1 := HK.out.bk.cell 1; have k2 := HK.out.bk.cell 2)
      | (go_at_call 57; (with_reducible refine (HM1.out _ HX.out).mono ?_); rintro e_ w1 ⟨rfl, hb⟩; replace HK := Lib.hid (HK.out.below hb); replace HX := Lib.hid (HX.out.trans (hb.mono HX.out.size)); clear hb f0 f1 f2 k0 k1 k2; have f0 := HK.out.bk.frozen 0; have f1 := HK.out.bk.frozen 1; have f2 := HK.out.bk.frozen 2; have k0 := HK.out.bk.cell 0; have k1 := HK.out.bk.cell 1; have k2 := HK.out.bk.cell 2)
      | (go_at_call 33; (with_reducible refine (HC.out _ HX.out).mono ?_); rintro e_ w1 ⟨rfl, hb⟩; replace HK := Lib.hid (HK.out.below hb); replace HX := Lib.hid (HX.out.trans (hb.mono HX.out.size)); clear hb f0 f1 f2 k0 k1 k2; have f0 := HK.out.bk.frozen 0; have f1 := HK.out.bk.frozen 1; have f2 := HK.out.bk.frozen 2; have k0 := HK.out.bk.cell 0; have k1 := HK.out.bk.cell 1; have k2 := HK.out.bk.cell 2))
    obtain ⟨W, hW⟩ : ∃ z, (((w1.setCell ⟨w.heap.size, 0, none⟩ (.slice none 0 0)).setCell ⟨w.heap.size, 1, none⟩ (.slice none 0 0)).setCell ⟨w.heap.size, 2, none⟩ (.slice none 0 0)) = z := ⟨_, rfl⟩
    have hk := ((HK.out.bk.set 0 (.slice none 0 0)).set 1 (.slice none 0 0)).set 2 (.slice none 0 0)
    have hbel := ((HK.out.bel.setCell (p := ⟨w.heap.size, 0, none⟩) (Nat.le_refl _) (.slice none 0 0)).setCell (p := ⟨w.heap.size, 1, none⟩) (Nat.le_refl _) (.slice none 0 0)).setCell (p := ⟨w.heap.size, 2, none⟩) (Nat.le_refl _) (.slice none 0 0)
    rw [hW] at hk hbel ⊢
    have r0 := hk.cell 0
    have r1 := hk.cell 1
    have r2 := hk.cell 2
    exact bodyPost_ret (v := .tuple #[.agg #[.slice none 0 0, .slice none 0 0, .slice none 0 0], .int .i64 50]) (by simp [results, Try.results47, go_sem, r0, r1, r2]) rfl ⟨none, 0, none, 0, none, 0, rfl, Own.nil _ _ _ _, Own.nil _ _ _ _, Own.nil _ _ _ _, hbel⟩
  rw [e2] at hand
  by_cases e3 : (e : Int) < 3
  · obtain ⟨rfl, rfl, rfl, rfl⟩ := makeR_err (fun h => by have := h.2.2.2.2.1; omega) hr
    clear hq0 hq hr m0 m1 e2 hqz
    go_enter Try.func47, Try.ntmps47
    go_wp2_with (first
      | (go_at_call 57; (with_reducible refine (HM0.out _ HX.out).mono ?_); rintro e_ w1 ⟨rfl, hb⟩; replace HK := Lib.hid (HK.out.below hb); replace HX := Lib.hid (HX.out.trans (hb.mono HX.out.size)); clear hb f0 f1 f2 k0 k1 k2; have f0 := HK.out.bk.frozen 0; have f1 := HK.out.bk.frozen 1; have f2 := HK.out.bk.frozen 2; have k0 := HK.out.bk.cell 0; have k1 := HK.out.bk.cell 1; have k2 := HK.out.bk.cell 2)
      | (go_at_call 57; (with_reducible refine (HM1.out _ HX.out).mono ?_); rintro e_ w1 ⟨rfl, hb⟩; replace HK := Lib.hid (HK.out.below hb); replace HX := Lib.hid (HX.out.trans (hb.mono HX.out.size)); clear hb f0 f1 f2 k0 k1 k2; have f0 := HK.out.bk.frozen 0; have f1 := HK.out.bk.frozen 1; have f2 := HK.out.bk.frozen 2; have k0 := HK.out.bk.cell 0; have k1 := HK.out.bk.cell 1; have k2 := HK.out.bk.cell 2)
      | (go_at_call 33; (with_reducible refine (HC.out _ HX.out).mono ?_); rintro e_ w1 ⟨rfl, hb⟩; replace HK := Lib.hid (HK.out.below hb); replace HX := Lib.hid (HX.out.trans (hb.mono HX.out.size)); clear hb f0 f1 f2 k0 k1 k2; have f0 := HK.out.bk.frozen 0; have f1 := HK.out.bk.frozen 1; have f2 := HK.out.bk.frozen 2; have k0 := HK.out.bk.cell 0; have k1 := HK.out.bk.cell 1; have k2 := HK.out.bk.cell 2))
    obtain ⟨W, hW⟩ : ∃ z, (((w1.setCell ⟨w.heap.size, 0, none⟩ (.slice none 0 0)).setCell ⟨w.heap.size, 1, none⟩ (.slice none 0 0)).setCell ⟨w.heap.size, 2, none⟩ (.slice none 0 0)) = z := ⟨_, rfl⟩
    have hk := ((HK.out.bk.set 0 (.slice none 0 0)).set 1 (.slice none 0 0)).set 2 (.slice none 0 0)
    have hbel := ((HK.out.bel.setCell (p := ⟨w.heap.size, 0, none⟩) (Nat.le_refl _) (.slice none 0 0)).setCell (p := ⟨w.heap.size, 1, none⟩) (Nat.le_refl _) (.slice none 0 0)).setCell (p := ⟨w.heap.size, 2, none⟩) (Nat.le_refl _) (.slice none 0 0)
    rw [hW] at hk hbel ⊢
    have r0 := hk.cell 0
    have r1 := hk.cell 1
    have r2 := hk.cell 2
    exact bodyPost_ret (v := .tuple #[.agg #[.slice none 0 0, .slice none 0 0, .slice none 0 0], .int .i64 50]) (by simp [results, Try.results47, go_sem, r0, r1, r2]) rfl ⟨none, 0, none, 0, none, 0, rfl, Own.nil _ _ _ _, Own.nil _ _ _ _, Own.nil _ _ _ _, hbel⟩
  have hne : nI a ≠ nI b := fun h => hqz (hq0.2 h)
  have la := ln_nI oa
  have lb := ln_nI ob
  have le := ln_small he
  have l1 : ln (nI a - 1) ≤ 64 := Nat.le_trans (ln_mono (by omega)) la
  have l2 : ln (nI b - 1) ≤ 64 := Nat.le_trans (ln_mono (by omega)) lb
  have l3 : ln ((nI a - 1) * (nI b - 1)) ≤ 128 := lnm l1 l2 (by omega)
  have l4 : ln (nI a * nI b) ≤ 128 := lnm la lb (by omega)
  have HL0 := Lib.hid (fun w' (h : Below wa.heap.size wa w') => less_li (H0.out.below h) (oa.le (by omega)))
  have HL1 := Lib.hid (fun w' (h : Below wa.heap.size wa w') => less_li (H1.out.below h) (ob.le (by omega)))
  have HPM := Lib.hid (fun w' v v' (h : LI .u64 w' v (ofN (nI a - 1))) (h' : LI .u64 w' v' (ofN (nI b - 1))) => mul_li h h' (okN_ofN (Nat.le_trans l1 (by omega))) (okN_ofN (Nat.le_trans l2 (by omega))))
  rw [nI_ofN, nI_ofN] at HPM
  have HOF := Lib.hid (of_lo e he)
  have nnE := ofN_nn e
  have nnN := ofN_nn (nI a * nI b)
  have HOI := Lib.hid (fun w' v v' (h : LI .u64 w' v (ofN e)) (h' : LI .u64 w' v' (ofN ((nI a - 1) * (nI b - 1)))) => inverse_lo h h' (okN_ofN (Nat.le_trans le (by omega))) (okN_ofN (Nat.le_trans l3 (by omega))) (r := invR e ((nI a - 1) * (nI b - 1))) (by rw [nI_ofN, nI_ofN]) (invR_nn _ _))
  have HN2 := Lib.hid (fun w' (h : Below wa.heap.size wa w') => mul_lo (H0.out.below h) (H1.out.below h) (oa.le (by omega)) (ob.le (by omega)) l4)
  unfold makeR at hr
  generalize hPh : (nI a - 1) * (nI b - 1) = phi at *
  have HMR := Lib.hid hr
  clear hr hq0 hq
  obtain ⟨iv, ie⟩ : ∃ x, invR e phi = x := ⟨_, rfl⟩
  rw [ie] at HOI
  obtain ⟨ivl, ier⟩ := iv
  have HIE := Lib.hid ie
  by_cases i0 : ier = 0
  · subst i0
    have hiv : ivl = ofN (invN e phi) ∧ Nat.gcd e phi = 1 ∧ 0 < phi := by
      have h := ie
      unfold invR at h
      split at h
      · simp only [Prod.mk.injEq] at h; omega
      · split at h
        · simp only [Prod.mk.injEq] at h; exact ⟨h.1.symm, by assumption, by omega⟩
        · simp only [Prod.mk.injEq] at h; omega
    obtain ⟨hivl, hgcd, hph0⟩ := hiv
    subst hivl
    have b8 : ∀ x, mayB x = true → ln x ≤ 8 := fun x h => by
      unfold mayB at h
      rw [Bool.and_eq_true] at h
      exact ln_of_blenL (by have := of_decide_eq_true h.1; omega)
    have lN : ln (nI a * nI b) ≤ 64 := lnm (b8 _ m0) (b8 _ m1) (by omega)
    have lP : ln phi ≤ 64 := by rw [← hPh]; exact lnm (Nat.le_trans (ln_mono (by omega)) (b8 _ m0)) (Nat.le_trans (ln_mono (by omega)) (b8 _ m1)) (by omega)
    have lD : ln (invN e phi) ≤ 64 := Nat.le_trans (ln_mono (Nat.le_of_lt (invN_gcd (by omega) hgcd).1)) lP
    have hR := Lib.hid (fun w' V0 V1 V2 (g0 : LI .u64 w' V0 (ofN (nI a * nI b))) (g1 : LI .u64 w' V1 (ofN e)) (g2 : LI .u64 w' V2 (ofN (invN e phi))) => right_li g0 g1 g2 (okN_ofN lN) (okN_ofN (Nat.le_trans le (by omega))) (okN_ofN lD))
    simp only [nI_ofN] at hR
    obtain ⟨kr, hkr⟩ : ∃ k, keyR (nI a * nI b) e (invN e phi) = k := ⟨_, rfl⟩
    rw [hkr] at hR
    have HR2 := HMR.out
    rw [ie, hkr] at HR2
    have HRR := Lib.hid HR2
    have HC5 := Lib.hid (And.intro m0 (And.intro m1 (And.intro hne (And.intro e2 e3))))
    have nnD := ofN_nn (invN e phi)
    generalize ofN (nI a * nI b) = LN at *
    generalize ofN e = LE at *
    generalize ofN (invN e phi) = LD at *
    clear ie m0 m1 e2 hqz hPh hne la lb le l1 l2 l3 l4 HMR HIE hgcd hph0 b8 lN lP lD hkr HR2
    go_enter Try.func47, Try.ntmps47
    go_upto_region 7 with (first
      | (go_at_call 57; (with_reducible refine (HM0.out _ HX.out).mono ?_); rintro e_ w1 ⟨rfl, hb⟩; replace HK := Lib.hid (HK.out.below hb); replace HX := Lib.hid (HX.out.trans (hb.mono HX.out.size)); clear hb f0 f1 f2 k0 k1 k2; have f0 := HK.out.bk.frozen 0; have f1 := HK.out.bk.frozen 1; have f2 := HK.out.bk.frozen 2; have k0 := HK.out.bk.cell 0; have k1 := HK.out.bk.cell 1; have k2 := HK.out.bk.cell 2)
      | (go_at_call 57; (with_reducible refine (HM1.out _ HX.out).mono ?_); rintro e_ w1 ⟨rfl, hb⟩; replace HK := Lib.hid (HK.out.below hb); replace HX := Lib.hid (HX.out.trans (hb.mono HX.out.size)); clear hb f0 f1 f2 k0 k1 k2; have f0 := HK.out.bk.frozen 0; have f1 := HK.out.bk.frozen 1; have f2 := HK.out.bk.frozen 2; have k0 := HK.out.bk.cell 0; have k1 := HK.out.bk.cell 1; have k2 := HK.out.bk.cell 2)
      | (go_at_call 33; (with_reducible refine (HC.out _ HX.out).mono ?_); rintro e_ w1 ⟨rfl, hb⟩; replace HK := Lib.hid (HK.out.below hb); replace HX := Lib.hid (HX.out.trans (hb.mono HX.out.size)); clear hb f0 f1 f2 k0 k1 k2; have f0 := HK.out.bk.frozen 0; have f1 := HK.out.bk.frozen 1; have f2 := HK.out.bk.frozen 2; have k0 := HK.out.bk.cell 0; have k1 := HK.out.bk.cell 1; have k2 := HK.out.bk.cell 2)
      | (go_at_call 56; (with_reducible refine (HL0.out _ HX.out).mono ?_); rintro e_ w1 ⟨u0, rfl, hb, hu⟩; replace HK := Lib.hid (HK.out.below hb); replace HX := Lib.hid (HX.out.trans (hb.mono HX.out.size)); clear hb f0 f1 f2 k0 k1 k2; have f0 := HK.out.bk.frozen 0; have f1 := HK.out.bk.frozen 1; have f2 := HK.out.bk.frozen 2; have k0 := HK.out.bk.cell 0; have k1 := HK.out.bk.cell 1; have k2 := HK.out.bk.cell 2; have hu0 := Lib.hid (GLI.li hu); clear hu)
      | (go_at_call 56; (with_reducible refine (HL1.out _ HX.out).mono ?_); rintro e_ w2 ⟨u1, rfl, hb, hu⟩; have hu00 := Lib.hid (LI.below hu0.out hb); replace HK := Lib.hid (HK.out.below hb); replace HX := Lib.hid (HX.out.trans (hb.mono HX.out.size)); clear hb f0 f1 f2 k0 k1 k2; have f0 := HK.out.bk.frozen 0; have f1 := HK.out.bk.frozen 1; have f2 := HK.out.bk.frozen 2; have k0 := HK.out.bk.cell 0; have k1 := HK.out.bk.cell 1; have k2 := HK.out.bk.cell 2; have hu1 := Lib.hid (GLI.li hu); clear hu)
      | (go_at_call 75; (with_reducible refine (HPM.out _ _ _ hu00.out hu1.out).mono ?_); rintro e_ w3 ⟨u2, rfl, hb, hu⟩; replace HK := Lib.hid (HK.out.below hb); replace HX := Lib.hid (HX.out.trans (hb.mono HX.out.size)); clear hb f0 f1 f2 k0 k1 k2; have f0 := HK.out.bk.frozen 0; have f1 := HK.out.bk.frozen 1; have f2 := HK.out.bk.frozen 2; have k0 := HK.out.bk.cell 0; have k1 := HK.out.bk.cell 1; have k2 := HK.out.bk.cell 2; have hu2 := Lib.hid (GLI.li hu); clear hu)
      | (go_at_call 22; (with_reducible refine (HOF.out _).mono ?_); rintro e_ w4 ⟨B, d, rfl, hb, ho⟩; have hu22 := Lib.hid (LI.below hu2.out hb); replace HK := Lib.hid (HK.out.below hb); replace HX := Lib.hid (HX.out.trans (hb.mono HX.out.size)); clear hb f0 f1 f2 k0 k1 k2; have f0 := HK.out.bk.frozen 0; have f1 := HK.out.bk.frozen 1; have f2 := HK.out.bk.frozen 2; have k0 := HK.out.bk.cell 0; have k1 := HK.out.bk.cell 1; have k2 := HK.out.bk.cell 2; have hu3 := Lib.hid (LI.of_Rdl ho.rd nnE); clear ho)
      | (go_at_call 77; (with_reducible refine (HOI.out _ _ _ hu3.out hu22.out).mono ?_); rintro e_ w5 ⟨C, c, rfl, hb, ho⟩; have HD := Lib.hid (ho.lower HX.out.size); replace HK := Lib.hid (HK.out.below hb); replace HX := Lib.hid (HX.out.trans (hb.mono HX.out.size)); clear hb f0 f1 f2 k0 k1 k2; have f0 := HK.out.bk.frozen 0; have f1 := HK.out.bk.frozen 1; have f2 := HK.out.bk.frozen 2; have k0 := HK.out.bk.cell 0; have k1 := HK.out.bk.cell 1; have k2 := HK.out.bk.cell 2; clear ho))
    go_upto_region 8 with (first
      | (go_at_call 75; (with_reducible refine (HN2.out _ HX.out).mono ?_); rintro e_ w6 ⟨Nn, dn, rfl, hb, ho⟩; have HNo := Lib.hid (ho.lower HX.out.size); replace HD := Lib.hid (HD.out.below hb); replace HK := Lib.hid (HK.out.below hb); replace HX := Lib.hid (HX.out.trans (hb.mono HX.out.size)); clear hb f0 f1 f2 k0 k1 k2; have f0 := HK.out.bk.frozen 0; have f1 := HK.out.bk.frozen 1; have f2 := HK.out.bk.frozen 2; have k0 := HK.out.bk.cell 0; have k1 := HK.out.bk.cell 1; have k2 := HK.out.bk.cell 2; clear ho)
      | (go_at_call 22; (with_reducible refine (HOF.out _).mono ?_); rintro e_ w7 ⟨En, de, rfl, hb, ho⟩; have HEo := Lib.hid (ho.lower HX.out.size); replace HD := Lib.hid (HD.out.below hb); replace HNo := Lib.hid (HNo.out.below hb); replace HK := Lib.hid (HK.out.below hb); replace HX := Lib.hid (HX.out.trans (hb.mono HX.out.size)); clear hb f0 f1 f2 k0 k1 k2; have f0 := HK.out.bk.frozen 0; have f1 := HK.out.bk.frozen 1; have f2 := HK.out.bk.frozen 2; have k0 := HK.out.bk.cell 0; have k1 := HK.out.bk.cell 1; have k2 := HK.out.bk.cell 2; clear ho))
    clear hu0 hu00 hu1 hu2 hu22 hu3
    obtain ⟨wk, hwk⟩ : ∃ z, w7.alloc (.cells #[.slice Nn LN.length dn, .slice En LE.length de, .slice C LD.length c] 26) = z := ⟨_, rfl⟩
    have hb : Below w7.heap.size w7 wk := by rw [← hwk]; exact (Below.refl _ _).alloc (Nat.le_refl _) _
    have hkb : Bk wk w7.heap.size 26 #[.slice Nn LN.length dn, .slice En LE.length de, .slice C LD.length c] := by rw [← hwk]; exact Bk.new _ _ _
    rw [hwk]
    replace HD := Lib.hid (HD.out.below hb)
    replace HNo := Lib.hid (HNo.out.below hb)
    replace HEo := Lib.hid (HEo.out.below hb)
    replace HK := Lib.hid (HK.out.below hb)
    replace HX := Lib.hid (HX.out.trans (hb.mono HX.out.size))
    clear hb f0 f1 f2 k0 k1 k2
    have f0 := HK.out.bk.frozen 0
    have f1 := HK.out.bk.frozen 1
    have f2 := HK.out.bk.frozen 2
    have k0 := HK.out.bk.cell 0
    have k1 := HK.out.bk.cell 1
    have k2 := HK.out.bk.cell 2
    have HKB := Lib.hid hkb
    have z0 := hkb.cell 0
    have z1 := hkb.cell 1
    have z2 := hkb.cell 2
    have HRG := Lib.hid (hR.out wk _ _ _ (LI.of_Rdl HNo.out.rd nnN) (LI.of_Rdl HEo.out.rd nnE) (LI.of_Rdl HD.out.rd nnD))
    clear hwk hkb
    by_cases kz : kr = 0
    · subst kz
      obtain ⟨rfl, rfl, rfl, rfl⟩ : LN = N ∧ LE = E ∧ LD = D ∧ r = 0 := by
        have h := HRR.out
        rw [if_pos ⟨HC5.out.1, HC5.out.2.1, HC5.out.2.2.1, HC5.out.2.2.2.1, by have := HC5.out.2.2.2.2; omega, by first | rfl | trivial, by first | rfl | trivial⟩] at h
        simp only [Prod.mk.injEq] at h
        exact ⟨h.1.1, h.1.2.1, h.1.2.2, h.2.symm⟩
      go_wp2_with (go_at_call 20; refine HRG.out.mono ?_; rintro e_ w8 ⟨rfl, hb⟩; replace HD := Lib.hid (HD.out.below hb); replace HNo := Lib.hid (HNo.out.below hb); replace HEo := Lib.hid (HEo.out.below hb); have y0 := (HKB.out.below hb HKB.out.lt).cell 0; have y1 := (HKB.out.below hb HKB.out.lt).cell 1; have y2 := (HKB.out.below hb HKB.out.lt).cell 2; replace HK := Lib.hid (HK.out.below hb); replace HX := Lib.hid (HX.out.trans (hb.mono HX.out.size)); clear hb f0 f1 f2 k0 k1 k2; have f0 := HK.out.bk.frozen 0; have f1 := HK.out.bk.frozen 1; have f2 := HK.out.bk.frozen 2; have k0 := HK.out.bk.cell 0; have k1 := HK.out.bk.cell 1; have k2 := HK.out.bk.cell 2)
      obtain ⟨W, hW⟩ : ∃ z, (((w8.setCell ⟨w.heap.size, 0, none⟩ (.slice Nn LN.length dn)).setCell ⟨w.heap.size, 1, none⟩ (.slice En LE.length de)).setCell ⟨w.heap.size, 2, none⟩ (.slice C LD.length c)) = z := ⟨_, rfl⟩
      have hk := ((HK.out.bk.set 0 (.slice Nn LN.length dn)).set 1 (.slice En LE.length de)).set 2 (.slice C LD.length c)
      have hbel := (((HK.out.bel.setCell (p := ⟨w.heap.size, 0, none⟩) (Nat.le_refl _) (.slice Nn LN.length dn)).setCell (p := ⟨w.heap.size, 1, none⟩) (Nat.le_refl _) (.slice En LE.length de)).setCell (p := ⟨w.heap.size, 2, none⟩) (Nat.le_refl _) (.slice C LD.length c))
      have oN := (((HNo.out.lowL (p := ⟨w.heap.size, 0, none⟩) hg (.slice Nn LN.length dn)).lowL (p := ⟨w.heap.size, 1, none⟩) hg (.slice En LE.length de)).lowL (p := ⟨w.heap.size, 2, none⟩) hg (.slice C LD.length c))
      have oE := (((HEo.out.lowL (p := ⟨w.heap.size, 0, none⟩) hg (.slice Nn LN.length dn)).lowL (p := ⟨w.heap.size, 1, none⟩) hg (.slice En LE.length de)).lowL (p := ⟨w.heap.size, 2, none⟩) hg (.slice C LD.length c))
      have oD := (((HD.out.lowL (p := ⟨w.heap.size, 0, none⟩) hg (.slice Nn LN.length dn)).lowL (p := ⟨w.heap.size, 1, none⟩) hg (.slice En LE.length de)).lowL (p := ⟨w.heap.size, 2, none⟩) hg (.slice C LD.length c))
      rw [hW] at hk hbel oN oE oD ⊢
      have r0 := hk.cell 0
      have r1 := hk.cell 1
      have r2 := hk.cell 2
      have hle := Nat.le_of_lt hg
      exact bodyPost_ret (v := .tuple #[.agg #[.slice Nn LN.length dn, .slice En LE.length de, .slice C LD.length c], .int .i64 0]) (by simp [results, Try.results47, go_sem, r0, r1, r2]) rfl ⟨Nn, dn, En, de, C, c, rfl, oN.lower hle, oE.lower hle, oD.lower hle, hbel⟩
    · obtain ⟨rfl, rfl, rfl, rfl⟩ : N = [] ∧ E = [] ∧ D = [] ∧ r = 50 := by
        have h := HRR.out
        rw [if_neg (fun h => kz h.2.2.2.2.2.2)] at h
        simp only [Prod.mk.injEq] at h
        exact ⟨h.1.1.symm, h.1.2.1.symm, h.1.2.2.symm, h.2.symm⟩
      have kne : (kr != 0) = true := by simpa using kz
      go_wp2_with (go_at_call 20; refine HRG.out.mono ?_; rintro e_ w8 ⟨rfl, hb⟩; replace HK := Lib.hid (HK.out.below hb); replace HX := Lib.hid (HX.out.trans (hb.mono HX.out.size)); clear hb f0 f1 f2 k0 k1 k2; have f0 := HK.out.bk.frozen 0; have f1 := HK.out.bk.frozen 1; have f2 := HK.out.bk.frozen 2; have k0 := HK.out.bk.cell 0; have k1 := HK.out.bk.cell 1; have k2 := HK.out.bk.cell 2)
      obtain ⟨W, hW⟩ : ∃ z, (((w8.setCell ⟨w.heap.size, 0, none⟩ (.slice none 0 0)).setCell ⟨w.heap.size, 1, none⟩ (.slice none 0 0)).setCell ⟨w.heap.size, 2, none⟩ (.slice none 0 0)) = z := ⟨_, rfl⟩
      have hk := ((HK.out.bk.set 0 (.slice none 0 0)).set 1 (.slice none 0 0)).set 2 (.slice none 0 0)
      have hbel := ((HK.out.bel.setCell (p := ⟨w.heap.size, 0, none⟩) (Nat.le_refl _) (.slice none 0 0)).setCell (p := ⟨w.heap.size, 1, none⟩) (Nat.le_refl _) (.slice none 0 0)).setCell (p := ⟨w.heap.size, 2, none⟩) (Nat.le_refl _) (.slice none 0 0)
      rw [hW] at hk hbel ⊢
      have r0 := hk.cell 0
      have r1 := hk.cell 1
      have r2 := hk.cell 2
      exact bodyPost_ret (v := .tuple #[.agg #[.slice none 0 0, .slice none 0 0, .slice none 0 0], .int .i64 50]) (by simp [results, Try.results47, go_sem, r0, r1, r2]) rfl ⟨none, 0, none, 0, none, 0, rfl, Own.nil _ _ _ _, Own.nil _ _ _ _, Own.nil _ _ _ _, hbel⟩
  · obtain ⟨rfl, rfl, rfl, rfl⟩ : N = [] ∧ E = [] ∧ D = [] ∧ r = 50 := by
      have h := HMR.out
      rw [if_neg (fun h => i0 (by have := h.2.2.2.2.2.1; rwa [ie] at this))] at h
      simp only [Prod.mk.injEq] at h
      exact ⟨h.1.1.symm, h.1.2.1.symm, h.1.2.2.symm, h.2.symm⟩
    have ine : (ier != 0) = true := by simpa using i0
    clear ie m0 m1 e2 hqz hPh hne la lb le l1 l2 l3 l4
    go_enter Try.func47, Try.ntmps47
    go_wp2_with (first
      | (go_at_call 57; (with_reducible refine (HM0.out _ HX.out).mono ?_); rintro e_ w1 ⟨rfl, hb⟩; replace HK := Lib.hid (HK.out.below hb); replace HX := Lib.hid (HX.out.trans (hb.mono HX.out.size)); clear hb f0 f1 f2 k0 k1 k2; have f0 := HK.out.bk.frozen 0; have f1 := HK.out.bk.frozen 1; have f2 := HK.out.bk.frozen 2; have k0 := HK.out.bk.cell 0; have k1 := HK.out.bk.cell 1; have k2 := HK.out.bk.cell 2)
      | (go_at_call 57; (with_reducible refine (HM1.out _ HX.out).mono ?_); rintro e_ w1 ⟨rfl, hb⟩; replace HK := Lib.hid (HK.out.below hb); replace HX := Lib.hid (HX.out.trans (hb.mono HX.out.size)); clear hb f0 f1 f2 k0 k1 k2; have f0 := HK.out.bk.frozen 0; have f1 := HK.out.bk.frozen 1; have f2 := HK.out.bk.frozen 2; have k0 := HK.out.bk.cell 0; have k1 := HK.out.bk.cell 1; have k2 := HK.out.bk.cell 2)
      | (go_at_call 33; (with_reducible refine (HC.out _ HX.out).mono ?_); rintro e_ w1 ⟨rfl, hb⟩; replace HK := Lib.hid (HK.out.below hb); replace HX := Lib.hid (HX.out.trans (hb.mono HX.out.size)); clear hb f0 f1 f2 k0 k1 k2; have f0 := HK.out.bk.frozen 0; have f1 := HK.out.bk.frozen 1; have f2 := HK.out.bk.frozen 2; have k0 := HK.out.bk.cell 0; have k1 := HK.out.bk.cell 1; have k2 := HK.out.bk.cell 2)
      | (go_at_call 56; (with_reducible refine (HL0.out _ HX.out).mono ?_); rintro e_ w1 ⟨u0, rfl, hb, hu⟩; replace HK := Lib.hid (HK.out.below hb); replace HX := Lib.hid (HX.out.trans (hb.mono HX.out.size)); clear hb f0 f1 f2 k0 k1 k2; have f0 := HK.out.bk.frozen 0; have f1 := HK.out.bk.frozen 1; have f2 := HK.out.bk.frozen 2; have k0 := HK.out.bk.cell 0; have k1 := HK.out.bk.cell 1; have k2 := HK.out.bk.cell 2; have hu0 := Lib.hid (GLI.li hu); clear hu)
      | (go_at_call 56; (with_reducible refine (HL1.out _ HX.out).mono ?_); rintro e_ w2 ⟨u1, rfl, hb, hu⟩; have hu00 := Lib.hid (LI.below hu0.out hb); replace HK := Lib.hid (HK.out.below hb); replace HX := Lib.hid (HX.out.trans (hb.mono HX.out.size)); clear hb f0 f1 f2 k0 k1 k2; have f0 := HK.out.bk.frozen 0; have f1 := HK.out.bk.frozen 1; have f2 := HK.out.bk.frozen 2; have k0 := HK.out.bk.cell 0; have k1 := HK.out.bk.cell 1; have k2 := HK.out.bk.cell 2; have hu1 := Lib.hid (GLI.li hu); clear hu)
      | (go_at_call 75; (with_reducible refine (HPM.out _ _ _ hu00.out hu1.out).mono ?_); rintro e_ w3 ⟨u2, rfl, hb, hu⟩; replace HK := Lib.hid (HK.out.below hb); replace HX := Lib.hid (HX.out.trans (hb.mono HX.out.size)); clear hb f0 f1 f2 k0 k1 k2; have f0 := HK.out.bk.frozen 0; have f1 := HK.out.bk.frozen 1; have f2 := HK.out.bk.frozen 2; have k0 := HK.out.bk.cell 0; have k1 := HK.out.bk.cell 1; have k2 := HK.out.bk.cell 2; have hu2 := Lib.hid (GLI.li hu); clear hu)
      | (go_at_call 22; (with_reducible refine (HOF.out _).mono ?_); rintro e_ w4 ⟨B, d, rfl, hb, ho⟩; have hu22 := Lib.hid (LI.below hu2.out hb); replace HK := Lib.hid (HK.out.below hb); replace HX := Lib.hid (HX.out.trans (hb.mono HX.out.size)); clear hb f0 f1 f2 k0 k1 k2; have f0 := HK.out.bk.frozen 0; have f1 := HK.out.bk.frozen 1; have f2 := HK.out.bk.frozen 2; have k0 := HK.out.bk.cell 0; have k1 := HK.out.bk.cell 1; have k2 := HK.out.bk.cell 2; have hu3 := Lib.hid (LI.of_Rdl ho.rd nnE); clear ho)
      | (go_at_call 77; (with_reducible refine (HOI.out _ _ _ hu3.out hu22.out).mono ?_); rintro e_ w5 ⟨C, c, rfl, hb, ho⟩; replace HK := Lib.hid (HK.out.below hb); replace HX := Lib.hid (HX.out.trans (hb.mono HX.out.size)); clear hb f0 f1 f2 k0 k1 k2; have f0 := HK.out.bk.frozen 0; have f1 := HK.out.bk.frozen 1; have f2 := HK.out.bk.frozen 2; have k0 := HK.out.bk.cell 0; have k1 := HK.out.bk.cell 1; have k2 := HK.out.bk.cell 2; clear ho))
    obtain ⟨W, hW⟩ : ∃ z, (((w5.setCell ⟨w.heap.size, 0, none⟩ (.slice none 0 0)).setCell ⟨w.heap.size, 1, none⟩ (.slice none 0 0)).setCell ⟨w.heap.size, 2, none⟩ (.slice none 0 0)) = z := ⟨_, rfl⟩
    have hk := ((HK.out.bk.set 0 (.slice none 0 0)).set 1 (.slice none 0 0)).set 2 (.slice none 0 0)
    have hbel := ((HK.out.bel.setCell (p := ⟨w.heap.size, 0, none⟩) (Nat.le_refl _) (.slice none 0 0)).setCell (p := ⟨w.heap.size, 1, none⟩) (Nat.le_refl _) (.slice none 0 0)).setCell (p := ⟨w.heap.size, 2, none⟩) (Nat.le_refl _) (.slice none 0 0)
    rw [hW] at hk hbel ⊢
    have r0 := hk.cell 0
    have r1 := hk.cell 1
    have r2 := hk.cell 2
    exact bodyPost_ret (v := .tuple #[.agg #[.slice none 0 0, .slice none 0 0, .slice none 0 0], .int .i64 50]) (by simp [results, Try.results47, go_sem, r0, r1, r2]) rfl ⟨none, 0, none, 0, none, 0, rfl, Own.nil _ _ _ _, Own.nil _ _ _ _, Own.nil _ _ _ _, hbel⟩
end
end Go.Proofs.Ytdmglajfmfjmlaa
namespace Go.Proofs.Ytdmglajfmfjmlaa
set_option linter.unusedSimpArgs false
set_option linter.unusedVariables false
set_option maxRecDepth 100000
def IsPrime (p : Nat) : Prop := 2 ≤ p ∧ ∀ d, d ∣ p → d = 1 ∨ d = p
theorem IsPrime.coprime {p a : Nat} (h : IsPrime p) (ha : ¬ p ∣ a) : Nat.Coprime p a := by
  unfold Nat.Coprime
  rcases h.2 (Nat.gcd p a) (Nat.gcd_dvd_left p a) with e | e
  · exact e
  · exact absurd (e ▸ Nat.gcd_dvd_right p a) ha
theorem IsPrime.dvd_mul {p a b : Nat} (h : IsPrime p) (hd : p ∣ a * b) : p ∣ a ∨ p ∣ b := by
  by_cases ha : p ∣ a
  · exact .inl ha
  · exact .inr ((h.coprime ha).dvd_of_dvd_mul_left hd)
def choose : Nat → Nat → Nat
  | _, 0 => 1
  | 0, _ + 1 => 0
  | n + 1, k + 1 => choose n k + choose n (k + 1)
theorem choose_zero (n : Nat) : choose n 0 = 1 := by cases n <;> rfl
theorem choose_gt {n k : Nat} (h : n < k) : choose n k = 0 := by
  induction n generalizing k with
  | zero => obtain ⟨k, rfl⟩ : ∃ q, k = q + 1 := ⟨k - 1, by omega⟩; rfl
  | succ n ih =>
    obtain ⟨k, rfl⟩ : ∃ q, k = q + 1 := ⟨k - 1, by omega⟩
    simp only [choose]; rw [ih (by omega), ih (by omega)]
theorem choose_self (n : Nat) : choose n n = 1 := by
  induction n with
  | zero => rfl
  | succ n ih => simp only [choose]; rw [ih, choose_gt (by omega)]
theorem succ_mul_choose (n k : Nat) : (k + 1) * choose (n + 1) (k + 1) = (n + 1) * choose n k := by
  induction n generalizing k with
  | zero =>
    cases k with
    | zero => rfl
    | succ k => simp [choose]
  | succ n ih =>
    cases k with
    | zero =>
      have := ih 0
      simp only [choose, choose_zero] at this ⊢
      omega
    | succ k =>
      have h1 := ih k
      have h2 := ih (k + 1)
      have e1 : choose (n + 1 + 1) (k + 1 + 1) = choose (n + 1) (k + 1) + choose (n + 1) (k + 1 + 1) := rfl
      have e2 : choose (n + 1) (k + 1) = choose n k + choose n (k + 1) := rfl
      rw [e1, Nat.mul_add, h2]
      have e3 : (k + 1 + 1) * choose (n + 1) (k + 1) = (k + 1) * choose (n + 1) (k + 1) + choose (n + 1) (k + 1) := by rw [Nat.succ_mul]
      rw [e3, h1]
      have e4 : (n + 1 + 1) * choose (n + 1) (k + 1) = (n + 1) * choose (n + 1) (k + 1) + choose (n + 1) (k + 1) := by rw [Nat.succ_mul]
      rw [e4, e2, Nat.mul_add]
      omega
theorem IsPrime.dvd_choose {p k : Nat} (h : IsPrime p) (h0 : 0 < k) (hk : k < p) : p ∣ choose p k := by
  obtain ⟨k, rfl⟩ : ∃ q, k = q + 1 := ⟨k - 1, by omega⟩
  obtain ⟨n, rfl⟩ : ∃ q, p = q + 1 := ⟨p - 1, by omega⟩
  have e := succ_mul_choose n k
  have hd : (n + 1) ∣ (k + 1) * choose (n + 1) (k + 1) := ⟨choose n k, e⟩
  rcases h.dvd_mul hd with h1 | h1
  · exact absurd (Nat.le_of_dvd (by omega) h1) (by omega)
  · exact h1
def sumN (f : Nat → Nat) : Nat → Nat
  | 0 => 0
  | n + 1 => sumN f n + f n
theorem sumN_add (f g : Nat → Nat) (n : Nat) : sumN (fun i => f i + g i) n = sumN f n + sumN g n := by
  induction n with
  | zero => rfl
  | succ n ih => simp only [sumN]; rw [ih]; omega
theorem sumN_mul (c : Nat) (f : Nat → Nat) (n : Nat) : sumN (fun i => c * f i) n = c * sumN f n := by
  induction n with
  | zero => simp [sumN]
  | succ n ih => simp only [sumN]; rw [ih, Nat.mul_add]
theorem sumN_shift (f : Nat → Nat) (n : Nat) : sumN f (n + 1) = f 0 + sumN (fun i => f (i + 1)) n := by
  induction n with
  | zero => simp [sumN]
  | succ n ih => rw [sumN, ih]; simp only [sumN]; omega
theorem sumN_congr {f g : Nat → Nat} {n : Nat} (h : ∀ i, i < n → f i = g i) : sumN f n = sumN g n := by
  induction n with
  | zero => rfl
  | succ n ih => simp only [sumN]; rw [ih fun i hi => h i (by omega), h n (by omega)]
theorem binom (a n : Nat) : (a + 1) ^ n = sumN (fun k => choose n k * a ^ k) (n + 1) := by
  induction n with
  | zero => simp [sumN, choose]
  | succ n ih =>
    rw [Nat.pow_succ, ih, Nat.mul_add, Nat.mul_one, sumN_shift (fun k => choose (n + 1) k * a ^ k)]
    have e1 : sumN (fun i => choose (n + 1) (i + 1) * a ^ (i + 1)) (n + 1) = sumN (fun i => a * (choose n i * a ^ i) + choose n (i + 1) * a ^ (i + 1)) (n + 1) := by
      refine sumN_congr fun i _ => ?_
      simp only [choose, Nat.pow_succ, Nat.add_mul]
      rw [Nat.mul_comm (a ^ i) a, Nat.mul_left_comm]
    have e2 : sumN (fun i => choose n (i + 1) * a ^ (i + 1)) (n + 1) + 1 = sumN (fun k => choose n k * a ^ k) (n + 1) := by
      rw [sumN_shift (fun k => choose n k * a ^ k) n, sumN, choose_gt (show n < n + 1 by omega), choose_zero]; simp; omega
    rw [e1, sumN_add, sumN_mul, choose_zero, Nat.mul_comm]
    simp only [Nat.pow_zero, Nat.one_mul]
    omega
theorem dvd_sumN {p : Nat} {f : Nat → Nat} {n : Nat} (h : ∀ i, i < n → p ∣ f i) : p ∣ sumN f n := by
  induction n with
  | zero => exact Nat.dvd_zero p
  | succ n ih => exact Nat.dvd_add (ih fun i hi => h i (by omega)) (h n (by omega))
theorem IsPrime.frob {p : Nat} (h : IsPrime p) (a : Nat) : (a + 1) ^ p % p = (a ^ p + 1) % p := by
  obtain ⟨n, rfl⟩ : ∃ q, p = q + 1 := ⟨p - 1, by have := h.1; omega⟩
  rw [binom, sumN, sumN_shift, choose_self, choose_zero]
  simp only [Nat.pow_zero, Nat.mul_one, Nat.one_mul]
  have hd : (n + 1) ∣ sumN (fun i => choose (n + 1) (i + 1) * a ^ (i + 1)) n := dvd_sumN fun i hi => Nat.dvd_trans (h.dvd_choose (by omega) (by omega)) (Nat.dvd_mul_right _ _)
  obtain ⟨c, hc⟩ := hd
  rw [hc, show 1 + (n + 1) * c + a ^ (n + 1) = (a ^ (n + 1) + 1) + (n + 1) * c by omega, Nat.add_mul_mod_self_left]
theorem IsPrime.fermat {p : Nat} (h : IsPrime p) (a : Nat) : a ^ p % p = a % p := by
  induction a with
  | zero => rw [Nat.zero_pow (by have := h.1; omega)]
  | succ a ih => rw [h.frob, Nat.add_mod, ih, ← Nat.add_mod]
theorem dvd_of_mod_eq {p a b : Nat} (h : a % p = b % p) (hle : b ≤ a) : p ∣ a - b := Nat.dvd_of_mod_eq_zero (Nat.sub_mod_eq_zero_of_mod_eq h)
theorem IsPrime.fermat1 {p a : Nat} (h : IsPrime p) (ha : ¬ p ∣ a) : a ^ (p - 1) % p = 1 := by
  have hp := h.1
  have ha0 : 0 < a := Nat.pos_of_ne_zero fun e => ha (e ▸ Nat.dvd_zero p)
  have e := h.fermat a
  have e2 : a ^ p = a * a ^ (p - 1) := by
    obtain ⟨n, rfl⟩ : ∃ q, p = q + 1 := ⟨p - 1, by omega⟩
    rw [Nat.pow_succ, Nat.mul_comm]; rfl
  rw [e2] at e
  have h1 : 1 ≤ a ^ (p - 1) := Nat.pow_pos ha0
  have hd : p ∣ a * (a ^ (p - 1) - 1) := by
    rw [Nat.mul_sub, Nat.mul_one]
    exact dvd_of_mod_eq e (Nat.le_mul_of_pos_right a h1)
  rcases h.dvd_mul hd with h2 | h2
  · exact absurd h2 ha
  · obtain ⟨c, hc⟩ := h2
    rw [show a ^ (p - 1) = 1 + p * c by omega, Nat.add_mul_mod_self_left, Nat.mod_eq_of_lt (by omega)]
theorem IsPrime.root {p x : Nat} (h : IsPrime p) (hx : x < p) (h1 : x * x % p = 1) : x = 1 ∨ x = p - 1 := by
  have hp := h.1
  have hx0 : 1 ≤ x := Nat.pos_of_ne_zero fun e => by subst e; simp at h1
  have h1' : x * x % p = 1 % p := by rw [h1, Nat.mod_eq_of_lt (by omega)]
  have hd : p ∣ (x - 1) * (x + 1) := by
    have hd := dvd_of_mod_eq h1' (Nat.le_trans hx0 (Nat.le_mul_of_pos_left x hx0))
    have e : (x - 1) * (x + 1) = x * x - 1 := by
      obtain ⟨y, rfl⟩ : ∃ y, x = y + 1 := ⟨x - 1, by omega⟩
      simp only [Nat.add_sub_cancel, Nat.mul_add, Nat.add_mul]; omega
    rwa [e]
  rcases h.dvd_mul hd with h2 | h2
  · left
    rcases Nat.eq_zero_or_pos (x - 1) with h0 | h0
    · omega
    · have := Nat.le_of_dvd h0 h2; omega
  · right
    have := Nat.le_of_dvd (by omega) h2
    omega
end Go.Proofs.Ytdmglajfmfjmlaa
namespace Go.Proofs.Ytdmglajfmfjmlaa
set_option linter.unusedSimpArgs false
set_option linter.unusedVariables false
set_option maxRecDepth 100000
theorem sqs_of_root {p b : Nat} (h : IsPrime p) : ∀ s e, powM b (2 ^ s * e) p = 1 → powM b e p = 1 ∨ sqs b p s e = true := by
  intro s
  induction s with
  | zero => intro e h1; left; simpa using h1
  | succ s ih =>
    intro e h1
    have h2 := ih (2 * e) (by rw [← Nat.mul_assoc, ← Nat.pow_succ]; exact h1)
    unfold sqs
    rcases h2 with h2 | h2
    · rw [← powM_sq] at h2
      rcases h.root (powM_lt (by have := h.1; omega)) h2 with h3 | h3
      · exact .inl h3
      · right; rw [h3]; simp
    · right; rw [h2]; simp
theorem tells_prime {p : Nat} (h : IsPrime p) (b : Nat) : tellsN p b = false := by
  have hp := h.1
  unfold tellsN
  rw [if_neg (by omega)]
  by_cases h2 : p = 2
  · rw [if_pos h2]
  rw [if_neg h2]
  have ho : ¬ p % 2 = 0 := fun h0 => by
    rcases h.2 2 (Nat.dvd_of_mod_eq_zero h0) with e | e <;> omega
  rw [if_neg ho]
  by_cases hb : b % p = 0
  · rw [if_pos hb]
  rw [if_neg hb]
  by_cases h1 : powM b ((p - 1) / 2 ^ twos (p - 1)) p = 1
  · rw [if_pos h1]
  rw [if_neg h1]
  have hf : powM b (2 ^ twos (p - 1) * ((p - 1) / 2 ^ twos (p - 1))) p = 1 := by
    rw [← (twos_spec (show p - 1 ≠ 0 by omega)).1]
    exact h.fermat1 fun hd => hb (Nat.mod_eq_zero_of_dvd hd)
  rcases sqs_of_root h _ _ hf with h3 | h3
  · exact absurd h3 h1
  · rw [h3]; rfl
end Go.Proofs.Ytdmglajfmfjmlaa
namespace Go.Proofs.Ytdmglajfmfjmlaa
set_option linter.unusedSimpArgs false
set_option linter.unusedVariables false
set_option maxRecDepth 100000
def pwm (m : Nat) : Nat → Nat → Nat → Nat
  | 0, _, _ => 1 % m
  | f + 1, a, e => cond (Nat.beq (e % 2) 1) (a * pwm m f (a * a % m) (e / 2) % m) (pwm m f (a * a % m) (e / 2))
theorem pwm_eq (m : Nat) : ∀ (f a e : Nat), e < 2 ^ f → pwm m f a e = a ^ e % m
  | 0, a, e, h => by
    obtain rfl : e = 0 := by simpa using h
    simp [pwm]
  | f + 1, a, e, h => by
    have h2 : e / 2 < 2 ^ f := by rw [Nat.pow_succ] at h; omega
    have ih := pwm_eq m f (a * a % m) (e / 2) h2
    have hp : (a * a % m) ^ (e / 2) % m = a ^ (2 * (e / 2)) % m := by rw [← Nat.pow_mod, Nat.pow_mul, Nat.pow_two]
    rw [hp] at ih
    unfold pwm
    rcases Nat.mod_two_eq_zero_or_one e with h0 | h0
    · rw [h0, show Nat.beq 0 1 = false from rfl, cond_false, ih, show 2 * (e / 2) = e by omega]
    · rw [h0, show Nat.beq 1 1 = true from rfl, cond_true, ih]
      rw [Nat.mul_mod, Nat.mod_mod, ← Nat.mul_mod, ← Nat.pow_succ', Nat.succ_eq_add_one, show 2 * (e / 2) + 1 = e by omega]
theorem pow_gcd {b p : Nat} (hp : 1 < p) : ∀ x y, b ^ x % p = 1 → b ^ y % p = 1 → b ^ Nat.gcd x y % p = 1 := by
  intro x
  induction x using Nat.strongRecOn with
  | ind x ih =>
    intro y hx hy
    rcases Nat.eq_zero_or_pos x with h0 | h0
    · subst h0; rw [Nat.gcd_zero_left]; exact hy
    · rw [Nat.gcd_rec]
      refine ih (y % x) (Nat.mod_lt _ h0) x ?_ hx
      have h1 : b ^ y = (b ^ x) ^ (y / x) * b ^ (y % x) := by rw [← Nat.pow_mul, ← Nat.pow_add, Nat.div_add_mod]
      have h2 : (b ^ x) ^ (y / x) % p = 1 := by rw [Nat.pow_mod, hx, Nat.one_pow]; exact Nat.mod_eq_of_lt hp
      rw [h1, Nat.mul_mod, h2, Nat.one_mul, Nat.mod_mod] at hy
      exact hy
theorem prime_dvd : ∀ n, 2 ≤ n → ∃ p, IsPrime p ∧ p ∣ n := by
  intro n
  induction n using Nat.strongRecOn with
  | ind n ih =>
    intro h
    by_cases hp : ∀ d, d ∣ n → d = 1 ∨ d = n
    · exact ⟨n, ⟨h, hp⟩, Nat.dvd_refl n⟩
    · have : ∃ d, d ∣ n ∧ d ≠ 1 ∧ d ≠ n := by
        apply Classical.byContradiction
        intro hc
        apply hp
        intro d hd
        apply Classical.byContradiction
        intro h'
        exact hc ⟨d, hd, fun e => h' (.inl e), fun e => h' (.inr e)⟩
      obtain ⟨d, hd, h1, h2⟩ := this
      have hle := Nat.le_of_dvd (by omega) hd
      have hd0 : d ≠ 0 := by rintro rfl; rw [Nat.zero_dvd] at hd; omega
      obtain ⟨p, hp', hpd⟩ := ih d (by omega) (by omega)
      exact ⟨p, hp', Nat.dvd_trans hpd hd⟩
theorem prime_of_big {n B : Nat} (h2 : 2 ≤ n) (hB : n < B * B) (h : ∀ p, IsPrime p → p ∣ n → B ≤ p) : IsPrime n := by
  refine ⟨h2, fun d hd => ?_⟩
  apply Classical.byContradiction
  intro hc
  have h1 : d ≠ 1 := fun e => hc (.inl e)
  have hn : d ≠ n := fun e => hc (.inr e)
  obtain ⟨e, he⟩ := hd
  have hd0 : d ≠ 0 := by rintro rfl; rw [Nat.zero_mul] at he; omega
  have he0 : e ≠ 0 := by rintro rfl; rw [Nat.mul_zero] at he; omega
  have he1 : e ≠ 1 := by rintro rfl; rw [Nat.mul_one] at he; exact hn he.symm
  obtain ⟨p, hp, hpd⟩ := prime_dvd d (by omega)
  obtain ⟨q, hq, hqe⟩ := prime_dvd e (by omega)
  have b1 := h p hp (Nat.dvd_trans hpd ⟨e, he⟩)
  have b2 := h q hq (Nat.dvd_trans hqe ⟨d, by rw [he, Nat.mul_comm]⟩)
  have l1 := Nat.le_of_dvd (by omega) hpd
  have l2 := Nat.le_of_dvd (by omega) hqe
  have := Nat.mul_le_mul (Nat.le_trans b1 l1) (Nat.le_trans b2 l2)
  omega
theorem pock_step {n q a k : Nat} (hq : IsPrime q) (hk : q * k = n - 1) (h1 : a ^ (n - 1) % n = 1) (h2 : Nat.gcd (a ^ k % n + n - 1) n = 1) {p : Nat} (hp : IsPrime p) (hpn : p ∣ n) (hn : 1 < n) : q ∣ p - 1 := by
  have hp1 : 1 < p := hp.1
  have m1 : a ^ (n - 1) % p = 1 := by
    have := congrArg (· % p) h1
    simp only [Nat.mod_mod_of_dvd _ hpn] at this
    rw [this, Nat.mod_eq_of_lt hp1]
  have m2 : a ^ k % p ≠ 1 := by
    intro hc
    have e1 : (a ^ k % n) % p = 1 := by rw [Nat.mod_mod_of_dvd _ hpn]; exact hc
    have e2 : p ∣ a ^ k % n + n - 1 := by
      obtain ⟨t, ht⟩ := hpn
      have hge : 1 ≤ a ^ k % n := by
        rcases Nat.eq_zero_or_pos (a ^ k % n) with h0 | h0
        · rw [h0, Nat.zero_mod] at e1; omega
        · exact h0
      have := Nat.div_add_mod (a ^ k % n) p
      rw [e1] at this
      exact ⟨(a ^ k % n) / p + t, by rw [Nat.mul_add, ← ht]; omega⟩
    have := Nat.dvd_gcd e2 hpn
    rw [h2] at this
    have := Nat.le_of_dvd (by omega) this
    omega
  have hap : ¬ p ∣ a := by
    intro hd
    have hpos : 0 < n - 1 := by omega
    have : p ∣ a ^ (n - 1) := by
      obtain ⟨m, hm⟩ : ∃ m, n - 1 = m + 1 := ⟨n - 2, by omega⟩
      rw [hm, Nat.pow_succ]; exact Nat.dvd_mul_left_of_dvd hd _
    have h0 := Nat.mod_eq_zero_of_dvd this
    omega
  have f := hp.fermat1 hap
  have b1 : (a ^ k) ^ q % p = 1 := by rw [← Nat.pow_mul, Nat.mul_comm k q, hk]; exact m1
  have b2 : (a ^ k) ^ (p - 1) % p = 1 := by
    rw [← Nat.pow_mul, Nat.mul_comm k, Nat.pow_mul, Nat.pow_mod, f, Nat.one_pow]; exact Nat.mod_eq_of_lt hp1
  have g := pow_gcd hp1 q (p - 1) b1 b2
  rcases hq.2 (Nat.gcd q (p - 1)) (Nat.gcd_dvd_left _ _) with e | e
  · rw [e, Nat.pow_one] at g; exact absurd g m2
  · rw [← e]; exact Nat.gcd_dvd_right _ _
def noDiv (n : Nat) : Nat → Nat → Bool
  | 0, d => cond (Nat.ble (d * d) n) (!Nat.beq (n % d) 0) true
  | k + 1, d => cond (noDiv n k d) (noDiv n k (d + 2 ^ k)) false
theorem noDiv_all (n : Nat) : ∀ k d, noDiv n k d = true → ∀ i, d ≤ i → i < d + 2 ^ k → i * i ≤ n → n % i ≠ 0
  | 0, d, h, i, h1, h2, h3 => by
    obtain rfl : i = d := by simp at h2; omega
    unfold noDiv at h
    rw [Nat.ble_eq_true_of_le h3, cond_true] at h
    intro h0
    rw [h0] at h
    simp at h
  | k + 1, d, h, i, h1, h2, h3 => by
    unfold noDiv at h
    cases hn : noDiv n k d with
    | false => rw [hn] at h; simp at h
    | true =>
      rw [hn, cond_true] at h
      rcases Nat.lt_or_ge i (d + 2 ^ k) with h4 | h4
      · exact noDiv_all n k d hn i h1 h4 h3
      · exact noDiv_all n k _ h i h4 (by rw [Nat.pow_succ] at h2; omega) h3
theorem prime_trial {n k : Nat} (h2 : 2 ≤ n) (hk : n < 2 ^ k * 2 ^ k) (h : noDiv n k 2 = true) : IsPrime n := by
  have key : ∀ m, 2 ≤ m → m * m ≤ n → ¬ m ∣ n := fun m hm1 hm2 hd => by
    have hlt : m < 2 ^ k := by
      rcases Nat.lt_or_ge m (2 ^ k) with h1 | h1
      · exact h1
      · have := Nat.mul_le_mul h1 h1; omega
    exact noDiv_all n k 2 h m hm1 (by omega) hm2 (Nat.mod_eq_zero_of_dvd hd)
  refine ⟨h2, fun d hd => ?_⟩
  apply Classical.byContradiction
  intro hc
  have h1 : d ≠ 1 := fun e => hc (.inl e)
  have hn : d ≠ n := fun e => hc (.inr e)
  obtain ⟨e, he⟩ := hd
  have hd0 : d ≠ 0 := by rintro rfl; rw [Nat.zero_mul] at he; omega
  have he0 : e ≠ 0 := by rintro rfl; rw [Nat.mul_zero] at he; omega
  have he1 : e ≠ 1 := by rintro rfl; rw [Nat.mul_one] at he; exact hn he.symm
  rcases Nat.le_total d e with hle | hle
  · exact key d (by omega) (by rw [he]; exact Nat.mul_le_mul_left _ hle) ⟨e, he⟩
  · exact key e (by omega) (by rw [he]; exact Nat.mul_le_mul_right _ hle) ⟨d, by rw [he, Nat.mul_comm]⟩
theorem pr_699053 : IsPrime 699053 := prime_trial (k := 10) (by decide) (by decide) (by decide +kernel)
theorem pr_649657 : IsPrime 649657 := prime_trial (k := 10) (by decide) (by decide) (by decide +kernel)
theorem pr_5419 : IsPrime 5419 := prime_trial (k := 7) (by decide) (by decide) (by decide +kernel)
theorem pr_2113 : IsPrime 2113 := prime_trial (k := 6) (by decide) (by decide) (by decide +kernel)
theorem pr_683 : IsPrime 683 := prime_trial (k := 5) (by decide) (by decide) (by decide +kernel)
theorem pr_20394401 : IsPrime 20394401 := prime_trial (k := 13) (by decide) (by decide) (by decide +kernel)
theorem pr_67254877 : IsPrime 67254877 := prime_trial (k := 14) (by decide) (by decide) (by decide +kernel)
theorem pr_2931542417 : IsPrime 2931542417 := prime_trial (k := 16) (by decide) (by decide) (by decide +kernel)
theorem pock1 {n q k f a : Nat} (hn : 1 < n) (hq : IsPrime q) (hk : q * k = n - 1) (hf : n ≤ 2 ^ f) (h1 : pwm n f a (n - 1) = 1) (h2 : Nat.gcd (pwm n f a k + n - 1) n = 1) {p : Nat} (hp : IsPrime p) (hpn : p ∣ n) : q ∣ p - 1 := by
  have hkl : k < 2 ^ f := by
    have := hq.1
    have : k ≤ q * k := Nat.le_mul_of_pos_left _ (by omega)
    omega
  rw [pwm_eq n f a _ (by omega)] at h1
  rw [pwm_eq n f a _ hkl] at h2
  exact pock_step hq hk h1 h2 hp hpn hn
theorem lt_of_dvd_pred {q p : Nat} (hp : 2 ≤ p) (h : q ∣ p - 1) : q + 1 ≤ p := by
  have := Nat.le_of_dvd (by omega) h; omega
theorem IsPrime.mul_dvd {q r n : Nat} (hq : IsPrime q) (hr : ¬ q ∣ r) (h1 : q ∣ n) (h2 : r ∣ n) : q * r ∣ n := by
  obtain ⟨t, rfl⟩ := h2
  rcases hq.dvd_mul h1 with h | h
  · exact absurd h hr
  · obtain ⟨s, rfl⟩ := h
    exact ⟨s, by rw [← Nat.mul_assoc, Nat.mul_comm r q]⟩
theorem pr_77158673929 : IsPrime 77158673929 := prime_of_big (B := 699054) (by decide) (by decide) fun p hp hpn =>
  lt_of_dvd_pred hp.1 (pock1 (n := 77158673929) (q := 699053) (k := 110376) (f := 37) (a := 3) (by decide) pr_699053 (by decide) (by decide) (by decide +kernel) (by decide +kernel) hp hpn)
theorem pr_28059810762433 : IsPrime 28059810762433 := prime_of_big (B := 67254878) (by decide) (by decide) fun p hp hpn =>
  lt_of_dvd_pred hp.1 (pock1 (n := 28059810762433) (q := 67254877) (k := 417216) (f := 45) (a := 3) (by decide) pr_67254877 (by decide) (by decide) (by decide +kernel) (by decide +kernel) hp hpn)
def M127 : Nat := 170141183460469231731687303715884105727
def M107 : Nat := 162259276829213363391578010288127
def M89 : Nat := 618970019642690137449562111
theorem pr_M127 : IsPrime M127 := prime_of_big (B := 77158673929 * 649657 * 5419 + 1) (by decide) (by decide) fun p hp hpn => by
  have d1 := pock1 (n := M127) (q := 77158673929) (k := 2205081746441495815869431694) (f := 127) (a := 3) (by decide) pr_77158673929 (by decide) (by decide) (by decide +kernel) (by decide +kernel) hp hpn
  have d2 := pock1 (n := M127) (q := 649657) (k := 261893866240907481535159790036718) (f := 127) (a := 3) (by decide) pr_649657 (by decide) (by decide) (by decide +kernel) (by decide +kernel) hp hpn
  have d3 := pock1 (n := M127) (q := 5419) (k := 31397155095122574595255084649544954) (f := 127) (a := 3) (by decide) pr_5419 (by decide) (by decide) (by decide +kernel) (by decide +kernel) hp hpn
  have e1 := pr_77158673929.mul_dvd (r := 649657) (by decide) d1 d2
  have e2 := pr_5419.mul_dvd (r := 77158673929 * 649657) (by decide) d3 e1
  exact lt_of_dvd_pred hp.1 (by rw [Nat.mul_comm]; exact e2)
theorem pr_M107 : IsPrime M107 := prime_of_big (B := 28059810762433 * 20394401 + 1) (by decide) (by decide) fun p hp hpn => by
  have d1 := pock1 (n := M107) (q := 28059810762433) (k := 5782621921543716222) (f := 107) (a := 3) (by decide) pr_28059810762433 (by decide) (by decide) (by decide +kernel) (by decide +kernel) hp hpn
  have d2 := pock1 (n := M107) (q := 20394401) (k := 7956069748222238220753726) (f := 107) (a := 3) (by decide) pr_20394401 (by decide) (by decide) (by decide +kernel) (by decide +kernel) hp hpn
  exact lt_of_dvd_pred hp.1 (pr_28059810762433.mul_dvd (r := 20394401) (by decide) d1 d2)
theorem pr_M89 : IsPrime M89 := prime_of_big (B := 2931542417 * 2113 * 683 + 1) (by decide) (by decide) fun p hp hpn => by
  have d1 := pock1 (n := M89) (q := 2931542417) (k := 211141416905068830) (f := 89) (a := 3) (by decide) pr_2931542417 (by decide) (by decide) (by decide +kernel) (by decide +kernel) hp hpn
  have d2 := pock1 (n := M89) (q := 2113) (k := 292934226049545734713470) (f := 89) (a := 3) (by decide) pr_2113 (by decide) (by decide) (by decide +kernel) (by decide +kernel) hp hpn
  have d3 := pock1 (n := M89) (q := 683) (k := 906251858920483363762170) (f := 89) (a := 3) (by decide) pr_683 (by decide) (by decide) (by decide +kernel) (by decide +kernel) hp hpn
  have e1 := pr_2931542417.mul_dvd (r := 2113) (by decide) d1 d2
  have e2 := pr_683.mul_dvd (r := 2931542417 * 2113) (by decide) d3 e1
  exact lt_of_dvd_pred hp.1 (by rw [Nat.mul_comm]; exact e2)
theorem rsa {p q e d : Nat} (hp : IsPrime p) (hq : IsPrime q) (hne : p ≠ q) (hed : e * d % ((p - 1) * (q - 1)) = 1) (x : Nat) : x ^ (e * d) % (p * q) = x % (p * q) := by
  have hp2 := hp.1
  have hq2 := hq.1
  have key : ∀ r s, IsPrime r → e * d = (r - 1) * s + 1 → x ^ (e * d) % r = x % r := fun r s hr hs => by
    have hr2 := hr.1
    rw [hs]
    by_cases hx : r ∣ x
    · rw [Nat.pow_succ, Nat.mod_eq_zero_of_dvd (Nat.dvd_mul_left_of_dvd hx _), Nat.mod_eq_zero_of_dvd hx]
    · have h1 : x ^ ((r - 1) * s) % r = 1 := by
        rw [Nat.pow_mul, Nat.pow_mod, hr.fermat1 hx, Nat.one_pow]; exact Nat.mod_eq_of_lt (by omega)
      rw [Nat.pow_succ, Nat.mul_mod, h1, Nat.one_mul, Nat.mod_mod]
  have hde := Nat.div_add_mod (e * d) ((p - 1) * (q - 1))
  rw [hed] at hde
  have k1 := key p ((q - 1) * (e * d / ((p - 1) * (q - 1)))) hp (by rw [← Nat.mul_assoc]; exact hde.symm)
  have k2 := key q ((p - 1) * (e * d / ((p - 1) * (q - 1)))) hq (by rw [← Nat.mul_assoc, Nat.mul_comm (q - 1)]; exact hde.symm)
  -- both parts, then the product
  have hle : x ≤ x ^ (e * d) ∨ x ^ (e * d) ≤ x := Nat.le_total _ _
  have comb : ∀ a b, b ≤ a → a % p = b % p → a % q = b % q → a % (p * q) = b % (p * q) := fun a b hba h1 h2 => by
    have d1 := dvd_of_mod_eq h1 hba
    have d2 := dvd_of_mod_eq h2 hba
    have hpq : ¬ p ∣ q := fun hd => by rcases hq.2 p hd with h | h <;> omega
    have d3 : p * q ∣ a - b := hp.mul_dvd hpq d1 d2
    obtain ⟨t, ht⟩ := d3
    have : a = b + p * q * t := by omega
    rw [this, Nat.add_mul_mod_self_left]
  rcases hle with h | h
  · exact comb _ _ h k1 k2
  · exact (comb _ _ h k1.symm k2.symm).symm
end Go.Proofs.Ytdmglajfmfjmlaa
namespace Go.Proofs.Ytdmglajfmfjmlaa
set_option linter.unusedSimpArgs false
set_option linter.unusedVariables false
set_option maxRecDepth 100000
open Go.RowKit Go.Proofs.YtdmglajfmfjmlaaW.PrintWords Go.Proofs.YtdmglajfmfjmlaaW.PrintLast Go.Proofs.YtdmglajfmfjmlaaW.PrintMore
theorem mayB_prime {p : Nat} (hp : IsPrime p) (hl : p < 2 ^ 512) : mayB p = true := by
  have h2 := hp.1
  unfold mayB
  rw [decide_eq_true (blen_le.2 hl), Bool.true_and]
  unfold primeN
  rw [if_neg (by omega), List.all_eq_true]
  intro b _
  rw [tells_prime hp b]; rfl
theorem makeR_two {p q e D N : Nat} (hp : IsPrime p) (hq : IsPrime q) (hne : p ≠ q) (hpl : p < 2 ^ 512) (hql : q < 2 ^ 512) (he : e % 2 = 1) (he3 : 3 ≤ e) (hD : D < (p - 1) * (q - 1)) (hed : e * D % ((p - 1) * (q - 1)) = 1) (hphi : 1 < (p - 1) * (q - 1)) (hN : p * q = N) (hk : keyR N e D = 0) :
    makeR p q e = ((ofN N, ofN e, ofN D), 0) := by
  have hg : Nat.gcd e ((p - 1) * (q - 1)) = 1 := by
    have d1 := Nat.gcd_dvd_left e ((p - 1) * (q - 1))
    have d2 := Nat.gcd_dvd_right e ((p - 1) * (q - 1))
    have d3 : Nat.gcd e ((p - 1) * (q - 1)) ∣ 1 := by
      have h1 := Nat.dvd_mul_right_of_dvd d1 D
      have := (Nat.dvd_mod_iff (k := Nat.gcd e ((p - 1) * (q - 1))) d2).2 h1
      rwa [hed] at this
    exact Nat.dvd_one.1 d3
  have hinv : invN e ((p - 1) * (q - 1)) = D := invN_eq hD (by rw [hed, Nat.mod_eq_of_lt hphi])
  unfold makeR
  rw [hinv, hN, if_pos ⟨mayB_prime hp hpl, mayB_prime hq hql, hne, he, he3, by rw [invR_pos (by omega) hg], hk⟩]
def N1 : Nat := 27606985387162255149739023449107931668458716142620601169954803000803329
def D1 : Nat := 15148310137902892372854494747293348982658810495089518801664574316425701
def N2 : Nat := 105312291668557186697918027513529248857806893649219117400977309697
def D2 : Nat := 52724439659078533542050878056119532687363428290303798353933435053
theorem mk_a : makeR M127 M107 65537 = ((ofN N1, ofN 65537, ofN D1), 0) := makeR_two pr_M127 pr_M107 (by decide) (by decide +kernel) (by decide +kernel) (by decide) (by decide) (by decide +kernel) (by decide +kernel) (by decide +kernel) (by decide +kernel) (by decide +kernel)
end Go.Proofs.Ytdmglajfmfjmlaa
namespace Go.Proofs.Ytdmglajfmfjmlaa
set_option linter.unusedSimpArgs false
set_option linter.unusedVariables false
set_option maxRecDepth 100000
open Go.RowKit Go.Proofs.YtdmglajfmfjmlaaW.PrintWords Go.Proofs.YtdmglajfmfjmlaaW.PrintLast Go.Proofs.YtdmglajfmfjmlaaW.PrintMore
structure KF (N E D : Nat) : Prop where
  undo1 : ∀ r, r < N → powM (powM r D N) E N = r
  undo2 : ∀ r, r < N → powM (powM r E N) D N = r
  key : keyR N E D = 0
  pub : keyR N E 0 = 0
  sz : 27 ≤ szN N
  d0 : D ≠ 0
  lN : ln N ≤ 64
  lE : ln E ≤ 64
  lD : ln D ≤ 64
theorem undo5 {p q N e d : Nat} (hp : IsPrime p) (hq : IsPrime q) (hne : p ≠ q) (hN : N = p * q) (hed : e * d % ((p - 1) * (q - 1)) = 1) {r : Nat} (hr : r < N) : powM (powM r e N) d N = r := by
  subst hN
  unfold powM
  rw [← Nat.pow_mod, ← Nat.pow_mul, rsa hp hq hne hed r, Nat.mod_eq_of_lt hr]
theorem kf1 : KF N1 65537 D1 where
  undo1 := fun r hr => undo5 (e := D1) (d := 65537) pr_M127 pr_M107 (by decide) (by decide +kernel) (by decide +kernel) hr
  undo2 := fun r hr => undo5 (e := 65537) (d := D1) pr_M127 pr_M107 (by decide) (by decide +kernel) (by decide +kernel) hr
  key := by decide +kernel
  pub := by decide +kernel
  sz := by decide +kernel
  d0 := by decide
  lN := ln_le.2 (by decide +kernel)
  lE := ln_le.2 (by decide +kernel)
  lD := ln_le.2 (by decide +kernel)
theorem kf2 : KF N2 65537 D2 where
  undo1 := fun r hr => undo5 (e := D2) (d := 65537) pr_M127 pr_M89 (by decide) (by decide +kernel) (by decide +kernel) hr
  undo2 := fun r hr => undo5 (e := 65537) (d := D2) pr_M127 pr_M89 (by decide) (by decide +kernel) (by decide +kernel) hr
  key := by decide +kernel
  pub := by decide +kernel
  sz := by decide +kernel
  d0 := by decide
  lN := ln_le.2 (by decide +kernel)
  lE := ln_le.2 (by decide +kernel)
  lD := ln_le.2 (by decide +kernel)
section
variable {N E D : Nat} (K : KF N E D)
include K
theorem KF.pos : 0 < N := by have := keyR_zero K.key; omega
theorem KF.sign (t : List Int) : signR N E D t = (workR N D (sgnR (szN N) t), 0) := by
  have := K.sz
  unfold signR
  rw [if_pos ⟨K.key, K.d0⟩, if_neg (by omega)]
theorem KF.fits (m : List Int) : fitsR N (workR N D m) = true := by
  unfold fitsR
  rw [workR_length, workR_val K.pos, decide_eq_true rfl, decide_eq_true (powM_lt K.pos)]; rfl
theorem KF.back {m : List Int} (hm : okB m) (hl : m.length = szN N) (h : beV m < N) : workR N E (workR N D m) = m := by
  unfold workR
  rw [show beV (beB (powM (beV m) D N) (szN N)) = powM (beV m) D N from workR_val K.pos D m, K.undo1 _ h, ← hl]
  exact beB_beV hm _ (Nat.mod_eq_of_lt (beV_lt hm))
theorem KF.other (t u : List Int) : verifyR N E 0 u (workR N D (sgnR (szN N) t)) = decide (truncL t 16 = truncL u 16) := by
  have h27 := K.sz
  unfold verifyR
  rw [K.pub, decide_eq_true rfl, decide_eq_true h27, K.fits, K.back (sgnR_okB _ (by omega) _) (sgnR_length _ (by omega) _) (sgnR_lt (by omega) _)]
  simp only [Bool.true_and]
  exact decide_eq_decide.2 (sgnR_inj _ (by omega) _ _)
end
end Go.Proofs.Ytdmglajfmfjmlaa
namespace Go.Proofs.Ytdmglajfmfjmlaa
set_option linter.unusedSimpArgs false
set_option linter.unusedVariables false
set_option maxRecDepth 100000
open Go.RowKit Go.Proofs.YtdmglajfmfjmlaaW.PrintWords Go.Proofs.YtdmglajfmfjmlaaW.PrintLast Go.Proofs.YtdmglajfmfjmlaaW.PrintMore
attribute [local go_sem] toldUpon_value toldUpon_skip toldUpon_enter
set_option maxHeartbeats 2000000 in
theorem copy12_any (w : World) (v : Vl) (h : VR w v) (hn : v.n ≤ 70368744177664) (hm : v.m ≤ 70368744177664) :
    Calls Try.prog 42 #[vv v] w fun e w' => ∃ v', e = .returned (vv v') ∧ same v v' ∧ VO w' w.heap.size v' ∧ Below w.heap.size w w' := by
  obtain ⟨ts, fs, A, n, c, ds, B, m, d, ss⟩ := v
  have hA : Rd .u8 w A n c ds := h.1
  have hB : Rd .u8 w B m d ss := h.2.1
  replace hn : n ≤ 70368744177664 := hn
  replace hm : m ≤ 70368744177664 := hm
  clear h
  unfold vv
  go_enter Try.func42, Try.ntmps42
  go_upto_region 1 with (fail)
  obtain ⟨w1, hw1⟩ : ∃ x, (w.alloc (.cells #[.int .u32 (ts : Int), .int .u32 (fs : Int), .slice A n c, .slice B m d] 66)).alloc (.cells #[.int .u32 0, .int .u32 0, .slice none 0 0, .slice none 0 0] 66) = x := ⟨_, rfl⟩
  have hb1 : Below w.heap.size w w1 := by rw [← hw1]; exact ((Below.refl _ _).alloc (Nat.le_refl _) _).alloc (by simp) _
  have k1 : Bk w1 w.heap.size 66 #[.int .u32 (ts : Int), .int .u32 (fs : Int), .slice A n c, .slice B m d] := by rw [← hw1]; exact (Bk.new w _ _).alloc _
  have k2 : Bk w1 (w.heap.size + 1) 66 #[.int .u32 0, .int .u32 0, .slice none 0 0, .slice none 0 0] := by rw [← hw1]; exact Bk.at_new _ _ (by simp)
  have hz : w1.heap.size = w.heap.size + 1 + 1 := by rw [← hw1]; simp
  rw [hw1]
  clear hw1
  have C0 : ∀ w', Below w1.heap.size w1 w' → w'.cell? ⟨w.heap.size, 0, none⟩ = some (.int .u32 (ts : Int)) := fun w' h => (k1.below h k1.lt).cell 0
  have C1 : ∀ w', Below w1.heap.size w1 w' → w'.cell? ⟨w.heap.size, 1, none⟩ = some (.int .u32 (fs : Int)) := fun w' h => (k1.below h k1.lt).cell 1
  have C2 : ∀ w', Below w1.heap.size w1 w' → w'.cell? ⟨w.heap.size, 2, none⟩ = some (.slice A n c) := fun w' h => (k1.below h k1.lt).cell 2
  have C3 : ∀ w', Below w1.heap.size w1 w' → w'.cell? ⟨w.heap.size, 3, none⟩ = some (.slice B m d) := fun w' h => (k1.below h k1.lt).cell 3
  have HA := fun w' (h : Below w1.heap.size w1 w') => join_any w' (hA.below (hb1.trans (h.mono hb1.size))) (Rd.nil .u8 w' none 0) (by omega)
  have HB := fun w' (h : Below w1.heap.size w1 w') => join_any w' (hB.below (hb1.trans (h.mono hb1.size))) (Rd.nil .u8 w' none 0) (by omega)
  simp only [List.append_nil, Nat.add_zero] at HA HB
  unfold ROWu8 at HA HB
  have HHA := Lib.hid HA
  have HHB := Lib.hid HB
  have K2 := Lib.hid k2
  have HZ := Lib.hid hz
  have HW := Lib.hid hb1
  clear hA hB hb1 k1 k2 hz HA HB
  (refine region_told_tail 10 _ (by kernel_rfl) (by kernel_rfl) (by simp only [List.take_succ_cons, List.take_zero, putAll, Act.put, List.setIfInBounds_toArray, List.set_cons_zero, List.set_cons_succ, Nat.reduceAdd]; rfl) ?_; simp only [List.take_succ_cons, List.take_zero, List.drop_succ_cons, List.drop_zero])
  (refine told_step (fun v _ => v = _) (Stays.eq _) (by intro y w' hw' hd; simp only [depsOf, updG, Region.binds, Nat.reduceAdd, Nat.reduceEqDiff, if_false, if_true, and_true, true_and, forall_const, Array.toList, GTrue] at hd; (try go_split_ands); unfold toldAt; go_simp; exact ⟨Below.refl _ _, rfl⟩) ?_)
  (refine told_step (fun v _ => v = _) (Stays.eq _) (by intro y w' hw' hd; simp only [depsOf, updG, Region.binds, Nat.reduceAdd, Nat.reduceEqDiff, if_false, if_true, and_true, true_and, forall_const, Array.toList, GTrue] at hd; have y0 := C0 w' hw'; unfold toldAt; go_simp; exact ⟨Below.refl _ _, rfl⟩) ?_)
  (refine told_step (fun v _ => v = _) (Stays.eq _) (by intro y w' hw' hd; simp only [depsOf, updG, Region.binds, Nat.reduceAdd, Nat.reduceEqDiff, if_false, if_true, and_true, true_and, forall_const, Array.toList, GTrue] at hd; (try go_split_ands); unfold toldAt; go_simp; exact ⟨Below.refl _ _, rfl⟩) ?_)
  (refine told_step (fun v _ => v = _) (Stays.eq _) (by intro y w' hw' hd; simp only [depsOf, updG, Region.binds, Nat.reduceAdd, Nat.reduceEqDiff, if_false, if_true, and_true, true_and, forall_const, Array.toList, GTrue] at hd; have y0 := C1 w' hw'; unfold toldAt; go_simp; exact ⟨Below.refl _ _, rfl⟩) ?_)
  (refine told_step (fun v _ => v = _) (Stays.eq _) (by intro y w' hw' hd; simp only [depsOf, updG, Region.binds, Nat.reduceAdd, Nat.reduceEqDiff, if_false, if_true, and_true, true_and, forall_const, Array.toList, GTrue] at hd; (try go_split_ands); unfold toldAt; go_simp; exact ⟨Below.refl _ _, rfl⟩) ?_)
  (refine told_step (fun v _ => v = _) (Stays.eq _) (by intro y w' hw' hd; simp only [depsOf, updG, Region.binds, Nat.reduceAdd, Nat.reduceEqDiff, if_false, if_true, and_true, true_and, forall_const, Array.toList, GTrue] at hd; have y0 := C2 w' hw'; unfold toldAt; go_simp; exact ⟨Below.refl _ _, rfl⟩) ?_)
  (refine told_step (GOwn w1.heap.size n ds) (GOwn.stays _ _ _) (by intro y w' hw' hd; simp only [depsOf, updG, Region.binds, Nat.reduceAdd, Nat.reduceEqDiff, if_false, if_true, and_true, true_and, forall_const, Array.toList, GTrue] at hd; (try go_split_ands); unfold toldAt; go_simp; refine ⟨Below.refl _ _, ?_⟩; exact (HHA.out w' hw').mono fun e w'' ⟨A', c', he, ho, hb⟩ => ⟨_, he, hb, A', c', rfl, ho.lower hw'.size⟩) ?_)
  (refine told_step (fun v _ => v = _) (Stays.eq _) (by intro y w' hw' hd; simp only [depsOf, updG, Region.binds, Nat.reduceAdd, Nat.reduceEqDiff, if_false, if_true, and_true, true_and, forall_const, Array.toList, GTrue] at hd; (try go_split_ands); unfold toldAt; go_simp; exact ⟨Below.refl _ _, rfl⟩) ?_)
  (refine told_step (fun v _ => v = _) (Stays.eq _) (by intro y w' hw' hd; simp only [depsOf, updG, Region.binds, Nat.reduceAdd, Nat.reduceEqDiff, if_false, if_true, and_true, true_and, forall_const, Array.toList, GTrue] at hd; have y0 := C3 w' hw'; unfold toldAt; go_simp; exact ⟨Below.refl _ _, rfl⟩) ?_)
  (refine told_step (GOwn w1.heap.size m ss) (GOwn.stays _ _ _) (by intro y w' hw' hd; simp only [depsOf, updG, Region.binds, Nat.reduceAdd, Nat.reduceEqDiff, if_false, if_true, and_true, true_and, forall_const, Array.toList, GTrue] at hd; (try go_split_ands); unfold toldAt; go_simp; refine ⟨Below.refl _ _, ?_⟩; exact (HHB.out w' hw').mono fun e w'' ⟨A', c', he, ho, hb⟩ => ⟨_, he, hb, A', c', rfl, ho.lower hw'.size⟩) ?_)
  (refine told_nil ?_; intro y w2 hw2 hd)
  obtain ⟨A', c', e2, o2⟩ : GOwn w1.heap.size n ds (y 6) w2 := hd 6 (by decide)
  obtain ⟨B', d', e5, o5⟩ : GOwn w1.heap.size m ss (y 9) w2 := hd 9 (by decide)
  have e1 : y 1 = .int .u32 (ts : Int) := hd 1 (by decide)
  have e3 : y 3 = .int .u32 (fs : Int) := hd 3 (by decide)
  rw [e2, e5, e1, e3]
  have k2 := K2.out.below hw2 K2.out.lt
  have d0 := k2.cell 0
  have d1 := k2.cell 1
  have d2 := k2.cell 2
  have d3 := k2.cell 3
  have fz2 : ∀ o, w2.frozen? ⟨w.heap.size + 1, o, none⟩ = false := fun o => k2.frozen o
  have HO2 := Lib.hid o2
  have HO5 := Lib.hid o5
  have HW2 := Lib.hid (HW.out.trans (hw2.mono HW.out.size))
  clear hd e2 e5 e1 e3 o2 o5 k2 HHA HHB C0 C1 C2 C3 hw2
  go_wp2_with fail
  have hz := HZ.out
  have q2 : ∀ o, (⟨w.heap.size + 1, o, none⟩ : Addr).block < w1.heap.size := fun o => by show w.heap.size + 1 < _; omega
  refine bodyPost_ret (v := .agg #[.int .u32 (ts : Int), .int .u32 (fs : Int), .slice A' n c', .slice B' m d']) (by simp [results, Try.results42, go_sem, d0, d1, d2, d3]) rfl ⟨⟨ts, fs, A', n, c', ds, B', m, d', ss⟩, rfl, ⟨rfl, rfl, rfl, rfl, rfl, rfl⟩, ⟨?_, ?_⟩, ?_⟩
  · exact ((((HO2.out.low (q2 0) _).low (q2 1) _).low (q2 2) _).low (q2 3) _).lower (by omega)
  · exact ((((HO5.out.low (q2 0) _).low (q2 1) _).low (q2 2) _).low (q2 3) _).lower (by omega)
  · exact (((HW2.out.setCell (p := ⟨w.heap.size + 1, 0, none⟩) (Nat.le_succ _) _).setCell (p := ⟨w.heap.size + 1, 1, none⟩) (Nat.le_succ _) _).setCell (p := ⟨w.heap.size + 1, 2, none⟩) (Nat.le_succ _) _).setCell (p := ⟨w.heap.size + 1, 3, none⟩) (Nat.le_succ _) _
def KNW (N E D : List Int) (w : World) (e_ : Ending) (w' : World) : Prop := ∃ A1 c1 A2 c2 A3 c3, e_ = .returned (.tuple #[.agg #[.slice A1 N.length c1, .slice A2 E.length c2, .slice A3 D.length c3], .int .i64 0]) ∧
  LI .u64 w' (.slice A1 N.length c1) N ∧ LI .u64 w' (.slice A2 E.length c2) E ∧ LI .u64 w' (.slice A3 D.length c3) D ∧ Below w.heap.size w w'
theorem shift_one (k : Nat) (h : k ≤ 65536) : shiftN (nI (ofN 1)) ((k : Nat) : Int) = 2 ^ k := by
  rw [nI_ofN]
  unfold shiftN
  rw [if_pos (by omega), Nat.one_mul, show (min ((k : Nat) : Int) 65536).toNat = k by omega]
theorem mers_sub (k M : Nat) (h : 2 ^ k - 1 = M) : (ofN (nI (ofN (2 ^ k)) - nI (ofN 1)), if nI (ofN (2 ^ k)) < nI (ofN 1) then (10 : Int) else 0) = (ofN M, 0) := by
  have : 1 ≤ 2 ^ k := Nat.one_le_two_pow
  rw [nI_ofN, nI_ofN, h, if_neg (by omega)]
theorem known12_any (w : World) : Calls Try.prog 39 #[] w (KNW (ofN N1) (ofN 65537) (ofN D1) w) := by
  have o1 : okN 262144 (ofN 1) := okN_1 (by omega)
  have oa : okN 262144 (ofN (2 ^ 127)) := okN_ofN (ln_le.2 (by decide +kernel))
  have ob : okN 262144 (ofN (2 ^ 107)) := okN_ofN (ln_le.2 (by decide +kernel))
  have om : okN 64 (ofN M127) := okN_ofN (ln_le.2 (by decide +kernel))
  have on : okN 64 (ofN M107) := okN_ofN (ln_le.2 (by decide +kernel))
  have hof := fun w => of_li 1 (by decide) w
  have hs1 := fun (w : World) v (h : LI .u64 w v (ofN 1)) => shift_li h o1 127
  have hs2 := fun (w : World) v (h : LI .u64 w v (ofN 1)) => shift_li h o1 107
  have hm1 := fun (w : World) v0 v1 (h0 : LI .u64 w v0 (ofN (2 ^ 127))) (h1 : LI .u64 w v1 (ofN 1)) => sub_li h0 h1 oa o1
  have hm2 := fun (w : World) v0 v1 (h0 : LI .u64 w v0 (ofN (2 ^ 107))) (h1 : LI .u64 w v1 (ofN 1)) => sub_li h0 h1 ob o1
  rw [show (127 : Int) = ((127 : Nat) : Int) from rfl, shift_one 127 (by omega)] at hs1
  rw [show (107 : Int) = ((107 : Nat) : Int) from rfl, shift_one 107 (by omega)] at hs2
  rw [mers_sub 127 M127 (by decide +kernel)] at hm1
  rw [mers_sub 107 M107 (by decide +kernel)] at hm2
  have hmk := fun (w : World) v0 v1 (h0 : LI .u64 w v0 (ofN M127)) (h1 : LI .u64 w v1 (ofN M107)) => make_lo (e := 65537) (N := ofN N1) (E := ofN 65537) (D := ofN D1) (r := 0) h0 h1 om on (by decide) (by rw [nI_ofN, nI_ofN]; exact mk_a)
  simp only [show ((1 : Nat) : Int) = 1 from rfl, show ((127 : Nat) : Int) = 127 from rfl, show ((107 : Nat) : Int) = 107 from rfl, show ((65537 : Nat) : Int) = 65537 from rfl] at hof hs1 hs2 hmk
  have p1 := ofN_nn N1
  have p2 := ofN_nn 65537
  have p3 := ofN_nn D1
  clear o1 oa ob om on
  generalize ofN 1 = L1 at *
  generalize ofN (2 ^ 127) = L2 at *
  generalize ofN (2 ^ 107) = L3 at *
  generalize ofN M127 = L4 at *
  generalize ofN M107 = L5 at *
  generalize ofN N1 = L6 at *
  generalize ofN 65537 = L7 at *
  generalize ofN D1 = L8 at *
  unfold PLI at hof hs1 hs2
  unfold PLE at hm1 hm2
  unfold PK3 at hmk
  unfold KNW
  have HP := Lib.hid (And.intro p1 (And.intro p2 p3))
  clear p1 p2 p3
  obtain ⟨n6, h6⟩ : ∃ n, L6.length = n := ⟨_, rfl⟩
  obtain ⟨n7, h7⟩ : ∃ n, L7.length = n := ⟨_, rfl⟩
  obtain ⟨n8, h8⟩ : ∃ n, L8.length = n := ⟨_, rfl⟩
  rw [h6, h7, h8] at hmk
  have HL := Lib.hid (And.intro h6 (And.intro h7 h8))
  clear h6 h7 h8
  go_enter Try.func39, Try.ntmps39
  go_upto_region 1 with (fail)
  obtain ⟨wa, hwa⟩ : ∃ z, w.alloc (.cells #[.slice none 0 0, .slice none 0 0, .slice none 0 0] 26) = z := ⟨_, rfl⟩
  have hba : Below w.heap.size w wa := by rw [← hwa]; exact (Below.refl _ _).alloc (Nat.le_refl _) _
  have hbk : Bk wa w.heap.size 26 #[.slice none 0 0, .slice none 0 0, .slice none 0 0] := by rw [← hwa]; exact Bk.new w _ _
  rw [hwa]
  have HBA := Lib.hid hba
  have HBK := Lib.hid hbk
  clear hwa hba hbk
  go_upto_region 2 with (first
    | (go_at_call 84; refine (hs1 _ _ r1).mono ?_; rintro e w2 ⟨u2, rfl, hb2, r2⟩; have B2 := Lib.hid (B1.out.trans (hb2.mono B1.out.size)); clear hb2)
    | (go_at_call 69; refine (hm1 _ _ _ (r2.li.below B3s.out) r3.li).mono ?_; rintro e w4 ⟨u4, rfl, hb4, r4⟩; have B4 := Lib.hid (B3.out.trans (hb4.mono B3.out.size)); have R4 := Lib.hid r4; clear hb4 r4)
    | (go_at_call 22; have ht := B2.out; refine (hof _).mono ?_; rintro e w3 ⟨u3, rfl, hb3, r3⟩; have B3s := Lib.hid hb3; have B3 := Lib.hid (ht.trans (hb3.mono ht.size)); clear hb3 ht)
    | (go_at_call 22; refine (hof _).mono ?_; rintro e w1 ⟨u1, rfl, hb1, r1⟩; have B1 := Lib.hid hb1; clear hb1))
  clear r1 r2 r3 B1 B2 B3 B3s hs1 hm1
  go_upto_region 3 with (first
    | (go_at_call 84; refine (hs2 _ _ r1).mono ?_; rintro e w6 ⟨u6, rfl, hb6, r6⟩; have B6 := Lib.hid (B5.out.trans (hb6.mono B5.out.size)); clear hb6)
    | (go_at_call 69; refine (hm2 _ _ _ (r6.li.below B7s.out) r7.li).mono ?_; rintro e w8 ⟨u8, rfl, hb8, r8⟩; have B8 := Lib.hid (B7.out.trans (hb8.mono B7.out.size)); have R8 := Lib.hid r8; clear hb8 r8)
    | (go_at_call 22; have ht := B6.out; refine (hof _).mono ?_; rintro e w7 ⟨u7, rfl, hb7, r7⟩; have B7s := Lib.hid hb7; have B7 := Lib.hid (ht.trans (hb7.mono ht.size)); clear hb7 ht)
    | (go_at_call 22; refine (hof _).mono ?_; rintro e w5 ⟨u5, rfl, hb5, r1⟩; have B5 := Lib.hid hb5; clear hb5))
  clear r1 r6 r7 B5 B6 B7 B7s hs2 hm2
  have HMK := Lib.hid (hmk w8 u4 u8 (R4.out.li.below B8.out) R8.out.li)
  clear hmk R4 R8
  refine wp_region_lit ?_
  (refine wpList_plain rfl (fun K hK => ?_); go_simp; refine hK _ _ ?_; clear hK K)
  (refine wpList_plain rfl (fun K hK => ?_); go_simp; refine hK _ _ ?_; clear hK K)
  (refine wpList_plain rfl (fun K hK => ?_); go_simp; refine HMK.out.mono ?_; rintro e w9 ⟨A1, c1, A2, c2, A3, c3, rfl, p1, p2, p3, hb9⟩; refine hK _ _ ?_; clear hK K)
  have hb49 := B4.out.trans (B8.out.mono B4.out.size |>.trans (hb9.mono (Nat.le_trans B4.out.size B8.out.size)))
  have hk := HBK.out.below hb49 HBK.out.lt
  have k0 := hk.cell 0
  have k1 := hk.cell 1
  have k2 := hk.cell 2
  have fz : ∀ o, w9.frozen? ⟨w.heap.size, o, none⟩ = false := fun o => hk.frozen o
  have HB49 := Lib.hid hb49
  have HPP := Lib.hid (And.intro p1 (And.intro p2 p3))
  clear hk hb49 p1 p2 p3 hb9 HMK
  go_wp2_with fail
  have hlt : w.heap.size < w8.heap.size := Nat.lt_of_lt_of_le HBK.out.lt (Nat.le_trans B4.out.size B8.out.size)
  have q : ∀ o, (⟨w.heap.size, o, none⟩ : Addr).block < w8.heap.size := fun o => hlt
  have g1 := ((HPP.out.1.low (q 0) (.slice A1 n6 c1)).low (q 1) (.slice A2 n7 c2)).low (q 2) (.slice A3 n8 c3)
  have g2 := ((HPP.out.2.1.low (q 0) (.slice A1 n6 c1)).low (q 1) (.slice A2 n7 c2)).low (q 2) (.slice A3 n8 c3)
  have g3 := ((HPP.out.2.2.low (q 0) (.slice A1 n6 c1)).low (q 1) (.slice A2 n7 c2)).low (q 2) (.slice A3 n8 c3)
  have hbf := (((HBA.out.trans (HB49.out.mono HBA.out.size)).setCell (p := ⟨w.heap.size, 0, none⟩) (Nat.le_refl _) (.slice A1 n6 c1)).setCell (p := ⟨w.heap.size, 1, none⟩) (Nat.le_refl _) (.slice A2 n7 c2)).setCell (p := ⟨w.heap.size, 2, none⟩) (Nat.le_refl _) (.slice A3 n8 c3)
  obtain ⟨h6, h7, h8⟩ := HL.out
  have t1 := LI.of_Rdl g1.rd HP.out.1
  have t2 := LI.of_Rdl g2.rd HP.out.2.1
  have t3 := LI.of_Rdl g3.rd HP.out.2.2
  refine bodyPost_ret (v := .tuple #[.agg #[.slice A1 n6 c1, .slice A2 n7 c2, .slice A3 n8 c3], .int .i64 0]) (by simp [results, Try.results39, go_sem, k0, k1, k2]) rfl ⟨A1, c1, A2, c2, A3, c3, by rw [h6, h7, h8], by rw [h6]; exact t1, by rw [h7]; exact t2, by rw [h8]; exact t3, hbf⟩
end Go.Proofs.Ytdmglajfmfjmlaa
namespace Go.Proofs.Ytdmglajfmfjmlaa
set_option linter.unusedSimpArgs false
set_option linter.unusedVariables false
set_option maxRecDepth 100000
open Go.RowKit Go.Proofs.YtdmglajfmfjmlaaW.PrintWords Go.Proofs.YtdmglajfmfjmlaaW.PrintLast Go.Proofs.YtdmglajfmfjmlaaW.PrintMore
attribute [local go_sem] toldUpon_value toldUpon_skip toldUpon_enter
theorem sigN_eq {a b : Vl} (h1 : a.ts = b.ts) (h2 : a.fs = b.fs) (h3 : a.n = b.n) (h4 : a.ds = b.ds) : sigN a = sigN b := by unfold sigN; rw [h1, h2, h3, h4]
def VB (w : World) (g : Nat) (v : Vl) : Prop := Bk w g 66 #[.int .u32 (v.ts : Int), .int .u32 (v.fs : Int), .slice v.A v.n v.c, .slice v.B v.m v.d] ∧ VR w v
theorem VB.below {w w' : World} {g : Nat} {v : Vl} (h : VB w g v) (hb : Below w.heap.size w w') : VB w' g v := ⟨h.1.below hb h.1.lt, h.2.below hb⟩
def KYB (w : World) (g : Nat) (V0 V1 V2 : Value) (n e d : List Int) : Prop := Bk w g 26 #[V0, V1, V2] ∧ LI .u64 w V0 n ∧ LI .u64 w V1 e ∧ LI .u64 w V2 d
theorem KYB.below {w w' : World} {g : Nat} {V0 V1 V2 : Value} {n e d : List Int} (h : KYB w g V0 V1 V2 n e d) (hb : Below w.heap.size w w') : KYB w' g V0 V1 V2 n e d := ⟨h.1.below hb h.1.lt, h.2.1.below hb, h.2.2.1.below hb, h.2.2.2.below hb⟩
theorem longB_m {v : Vl} (h : longB v = false) : v.m ≤ 300 := by
  unfold longB at h
  simp only [Bool.or_eq_false_iff, decide_eq_false_iff_not] at h
  omega
set_option maxHeartbeats 4000000 in
theorem vh_main (v u : Vl) (w : World) (hv : VR w v) (hu : VR w u) (h1 : longB v = false) (h2 : longB u = false) (g1 : v.n ≤ 2048) (g2 : u.n ≤ 2048) : Calls Try.prog 8 #[vv v, vv u] w fun e w' => e = .returned (.bool true) ∧ Below w.heap.size w w' := by
  have m1 := longB_m h1
  have m2 := longB_m h2
  have HLV := Lib.hid (fun w => vlong_any w v)
  have HLU := Lib.hid (fun w => vlong_any w u)
  rw [h1] at HLV
  rw [h2] at HLU
  have K := kf1
  have oN := okN_ofN K.lN
  have oE := okN_ofN K.lE
  have oD := okN_ofN K.lD
  have o0 : okN 64 [] := by decide
  have n0 : nI [] = 0 := rfl
  have oT := okB_cIv (sigN_lt hv (by omega))
  have oU := okB_cIv (sigN_lt hu (by omega))
  have lT : (cI (sigN v)).length ≤ 2097152 := by rw [cI_length, sigN_length hv]; omega
  have lU : (cI (sigN u)).length ≤ 2097152 := by rw [cI_length, sigN_length hu]; omega
  obtain ⟨S, hS⟩ : ∃ S, workR N1 D1 (sgnR (szN N1) (cI (sigN v))) = S := ⟨_, rfl⟩
  have hSl : S.length = szN N1 := by rw [← hS]; exact workR_length _ _ _
  have hSo : okB S := by rw [← hS]; exact workR_okB _ _ _
  have hz2 := szN_bounds (keyR_zero K.key).2.1
  have hsg : signR (nI (ofN N1)) (nI (ofN 65537)) (nI (ofN D1)) (cI (sigN v)) = (S, 0) := by rw [nI_ofN, nI_ofN, nI_ofN, K.sign, hS]
  obtain ⟨q, hq⟩ : ∃ q, decide (truncL (cI (sigN v)) 16 = truncL (cI (sigN u)) 16) = q := ⟨_, rfl⟩
  have hc1 : ∀ x : Vl, sigN x = sigN v → cI x.ss = S → checkR (nI (ofN N1)) (nI (ofN 65537)) (nI []) x = 0 := fun x e1 e2 => by
    unfold checkR
    rw [e1, e2, nI_ofN, nI_ofN, n0, ← hS, K.other, decide_eq_true rfl, if_pos rfl]
  have hc2 : ∀ x : Vl, sigN x = sigN u → cI x.ss = S → checkR (nI (ofN N1)) (nI (ofN 65537)) (nI []) x = if q = true then 0 else 81 := fun x e1 e2 => by
    unfold checkR
    rw [e1, e2, nI_ofN, nI_ofN, n0, ← hS, K.other, hq]
  have hst : ((strOfNums (truncL (cI (sigN v)) 16)).toList == (strOfNums (truncL (cI (sigN u)) 16)).toList) = q := by rw [str_eq (truncL_okB _ _) (truncL_okB _ _), hq]
  have HSG := Lib.hid (fun w' (hb : Below w.heap.size w w') k0 k1 k2 (r0 : LI .u64 w' k0 (ofN N1)) (r1 : LI .u64 w' k1 (ofN 65537)) (r2 : LI .u64 w' k2 (ofN D1)) => vsign_any w' r0 r1 r2 oN oE oD v (hv.below hb) g1 (by omega) hsg hSo)
  have HKN := Lib.hid (fun w => known12_any w)
  have HSV := Lib.hid (fun w' (hb : Below w.heap.size w w') => vsigned_any w' v (hv.below hb) (by omega))
  have HSU := Lib.hid (fun w' (hb : Below w.heap.size w w') => vsigned_any w' u (hu.below hb) (by omega))
  have HCU := Lib.hid (fun w' (hb : Below w.heap.size w w') => copy12_any w' u (hu.below hb) (by omega) (by omega))
  have HC := Lib.hid (And.intro hc1 (And.intro hc2 hst))
  have HT := Lib.hid (And.intro (And.intro oT lT) (And.intro oU lU))
  have HOK := Lib.hid (And.intro oN (And.intro oE (And.intro oD o0)))
  have HV := Lib.hid hv
  have HU := Lib.hid hu
  have HSS := Lib.hid (And.intro (show S.length ≤ 2097152 by omega) hSo)
  clear hc1 hc2 hst oT oU lT lU oN oE oD o0 n0 hsg hq hS hSl hz2 K hv hu hSo h1 h2
  obtain ⟨ts, fs, A, n, c, ds, B, m, d, ss⟩ := v
  obtain ⟨ts2, fs2, A2, n2, c2, ds2, B2, m2', d2, ss2⟩ := u
  replace g1 : n ≤ 2048 := g1
  replace g2 : n2 ≤ 2048 := g2
  have t1 : ¬ (2048 : Int) < (n : Int) := by omega
  have t2 : ¬ (2048 : Int) < (n2 : Int) := by omega
  unfold vv at HLV HLU HSG HSV HSU HCU ⊢
  dsimp only at HLV HLU HSG HSV HSU HCU ⊢
  unfold KNW at HKN
  unfold ROWu8 at HSV HSU
  generalize ofN N1 = L1 at *
  generalize ofN 65537 = L2 at *
  generalize ofN D1 = L3 at *
  obtain ⟨k1, hk1⟩ : ∃ m, L1.length = m := ⟨_, rfl⟩
  obtain ⟨k2, hk2⟩ : ∃ m, L2.length = m := ⟨_, rfl⟩
  obtain ⟨k3, hk3⟩ : ∃ m, L3.length = m := ⟨_, rfl⟩
  rw [hk1, hk2, hk3] at HKN
  clear hk1 hk2 hk3
  go_enter Try.func8, Try.ntmps8
  go_upto_region 1 with (fail)
  obtain ⟨w1, hw1⟩ : ∃ x, (w.alloc (.cells #[.int .u32 (ts : Int), .int .u32 (fs : Int), .slice A n c, .slice B m d] 66)).alloc (.cells #[.int .u32 (ts2 : Int), .int .u32 (fs2 : Int), .slice A2 n2 c2, .slice B2 m2' d2] 66) = x := ⟨_, rfl⟩
  have hb1 : Below w.heap.size w w1 := by rw [← hw1]; exact ((Below.refl _ _).alloc (Nat.le_refl _) _).alloc (by simp) _
  have p1 : Bk w1 w.heap.size 66 #[.int .u32 (ts : Int), .int .u32 (fs : Int), .slice A n c, .slice B m d] := by rw [← hw1]; exact (Bk.new w _ _).alloc _
  have p2 : Bk w1 (w.heap.size + 1) 66 #[.int .u32 (ts2 : Int), .int .u32 (fs2 : Int), .slice A2 n2 c2, .slice B2 m2' d2] := by rw [← hw1]; exact Bk.at_new _ _ (by simp)
  rw [hw1]
  clear hw1
  have y0 := p1.cell 0
  have y1 := p1.cell 1
  have y2 := p1.cell 2
  have y3 := p1.cell 3
  have C2 := Lib.hid (fun w' (h : Below w1.heap.size w1 w') => (p1.below h p1.lt).cell 2)
  have D0 := Lib.hid (fun w' (h : Below w1.heap.size w1 w') => (p2.below h p2.lt).cell 0)
  have D1 := Lib.hid (fun w' (h : Below w1.heap.size w1 w') => (p2.below h p2.lt).cell 1)
  have D2 := Lib.hid (fun w' (h : Below w1.heap.size w1 w') => (p2.below h p2.lt).cell 2)
  have D3 := Lib.hid (fun w' (h : Below w1.heap.size w1 w') => (p2.below h p2.lt).cell 3)
  have HP := Lib.hid (And.intro p1 p2)
  have HB1 := Lib.hid hb1
  clear p1 p2 hb1
  go_upto_region 3 with (first
    | (go_at_call 37; (with_reducible refine (HLV.out _).mono ?_); rintro e w2 ⟨rfl, hb2⟩; have d0 := D0.out w2 hb2; have d1 := D1.out w2 hb2; have d2' := D2.out w2 hb2; have d3 := D3.out w2 hb2; have H2 := Lib.hid hb2; clear hb2)
    | (go_at_call 37; (with_reducible refine (HLU.out _).mono ?_); rintro e w3 ⟨rfl, hb3⟩; have H3 := Lib.hid (H2.out.trans (hb3.mono H2.out.size)); have e2 := C2.out w3 H3.out; have f2 := D2.out w3 H3.out; clear hb3))
  clear y0 y1 y2 y3 d0 d1 d2' d3 e2 f2 C2 D0 D1 D2 D3 H2 HLV HLU t1 t2
  go_upto_region 4 with (go_at_call 39; refine (HKN.out _).mono ?_; rintro e w4 ⟨B1, e1, B2', e2, B3, e3, rfl, r1, r2, r3, hb4⟩)
  obtain ⟨g5, hg5⟩ : ∃ g, w4.heap.size = g := ⟨_, rfl⟩
  obtain ⟨w5, hw5⟩ : ∃ z, w4.alloc (.cells #[.slice B1 k1 e1, .slice B2' k2 e2, .slice B3 k3 e3] 26) = z := ⟨_, rfl⟩
  have hb5 : Below w4.heap.size w4 w5 := by rw [← hw5]; exact (Below.refl _ _).alloc (Nat.le_refl _) _
  have hb15 : Below w1.heap.size w1 w5 := H3.out.trans ((hb4.mono H3.out.size).trans (hb5.mono (Nat.le_trans H3.out.size hb4.size)))
  have hk5 : KYB w5 g5 (.slice B1 k1 e1) (.slice B2' k2 e2) (.slice B3 k3 e3) L1 L2 L3 := ⟨by rw [← hw5, ← hg5]; exact Bk.new w4 _ _, r1.below hb5, r2.below hb5, r3.below hb5⟩
  rw [hw5, hg5]
  have p1 := HP.out.1.below hb15 HP.out.1.lt
  have p2 := HP.out.2.below hb15 HP.out.2.lt
  have HB5 := Lib.hid (HB1.out.trans (hb15.mono HB1.out.size))
  have HK5 := Lib.hid hk5
  have HP5 := Lib.hid (And.intro p1 p2)
  have y0 := p1.cell 0
  have y1 := p1.cell 1
  have y2 := p1.cell 2
  have y3 := p1.cell 3
  have z0 := hk5.1.cell 0
  have z1 := hk5.1.cell 1
  have z2 := hk5.1.cell 2
  have HSN := Lib.hid (HSG.out w5 HB5.out _ _ _ hk5.2.1 hk5.2.2.1 hk5.2.2.2)
  clear hw5 hg5 hb5 hb15 hk5 p1 p2 r1 r2 r3 hb4 H3 HP HSG HKN HB1
  go_upto_region 5 with (go_at_call 40; refine HSN.out.mono ?_; rintro e w6 ⟨⟨ts', fs', A', n', c', ds', B', m', d', ss'⟩, rfl, hvr, q1, q2, q3, q4, q5, q6, hb6⟩; dsimp only)
  replace q1 : ts' = ts := q1
  replace q2 : fs' = fs := q2
  replace q3 : ds' = ds := q3
  replace q4 : n' = n := q4
  replace q5 : cI ss' = S := q5
  replace q6 : m' = S.length := q6
  subst q1 q2 q3 q4
  obtain ⟨g7, hg7⟩ : ∃ g, w6.heap.size = g := ⟨_, rfl⟩
  obtain ⟨w7, hw7⟩ : ∃ z, w6.alloc (.cells #[.int .u32 (ts' : Int), .int .u32 (fs' : Int), .slice A' n' c', .slice B' m' d'] 66) = z := ⟨_, rfl⟩
  have hb7 : Below w6.heap.size w6 w7 := by rw [← hw7]; exact (Below.refl _ _).alloc (Nat.le_refl _) _
  have hb57 := hb6.trans (hb7.mono hb6.size)
  have hv7 : VB w7 g7 ⟨ts', fs', A', n', c', ds', B', m', d', ss'⟩ := ⟨by rw [← hw7, ← hg7]; exact Bk.new w6 _ _, hvr.below hb7⟩
  rw [hw7, hg7]
  have hk7 := HK5.out.below hb57
  have HB7 := Lib.hid (HB5.out.trans (hb57.mono HB5.out.size))
  have HP7 := Lib.hid (And.intro (HP5.out.1.below hb57 HP5.out.1.lt) (HP5.out.2.below hb57 HP5.out.2.lt))
  have HK7 := Lib.hid hk7
  have HV7 := Lib.hid hv7
  have HQ := Lib.hid (And.intro q5 q6)
  clear y0 y1 y2 y3 z0 z1 z2 HSN hw7 hg7 hb7 hb57 hv7 hk7 hvr hb6 q5 q6 HK5 HP5 HB5
  have Z0 := fun w' (h : Below w7.heap.size w7 w') => (HK7.out.below h).1.cell 0
  have Z1 := fun w' (h : Below w7.heap.size w7 w') => (HK7.out.below h).1.cell 1
  have Z2 := fun w' (h : Below w7.heap.size w7 w') => (HK7.out.below h).1.cell 2
  have Y0 := fun w' (h : Below w7.heap.size w7 w') => (HV7.out.below h).1.cell 0
  have Y1 := fun w' (h : Below w7.heap.size w7 w') => (HV7.out.below h).1.cell 1
  have Y2 := fun w' (h : Below w7.heap.size w7 w') => (HV7.out.below h).1.cell 2
  have Y3 := fun w' (h : Below w7.heap.size w7 w') => (HV7.out.below h).1.cell 3
  (refine region_told _ (by kernel_rfl) (by kernel_rfl) (by simp only [putAll, Act.put, List.setIfInBounds_toArray, List.set_cons_zero, List.set_cons_succ, Nat.reduceAdd]; rfl) ?_)
  iterate 7 (refine told_step (fun v _ => v = _) (Stays.eq _) (by intro y w' hw' hd; simp only [depsOf, updG, Region.binds, Nat.reduceAdd, Nat.reduceEqDiff, if_false, if_true, and_true, true_and, forall_const, Array.toList, GTrue] at hd; (try go_split_ands); unfold toldAt; go_simp; exact ⟨Below.refl _ _, rfl⟩) ?_)
  (refine told_step (fun v _ => v = _) (Stays.eq _) (by intro y w' hw' hd; simp only [depsOf, updG, Region.binds, Nat.reduceAdd, Nat.reduceEqDiff, if_false, if_true, and_true, true_and, forall_const, Array.toList, GTrue] at hd; have y0 := Z0 w' hw'; have y1 := Z1 w' hw'; have y2 := Z2 w' hw'; unfold toldAt; go_simp; exact ⟨Below.refl _ _, rfl⟩) ?_)
  (refine told_step (GPub L1 L2) ( GPub.stays _ _) (by intro y w' hw' hd; simp only [depsOf, updG, Region.binds, Nat.reduceAdd, Nat.reduceEqDiff, if_false, if_true, and_true, true_and, forall_const, Array.toList, GTrue] at hd; (try go_split_ands); unfold toldAt; go_simp; refine ⟨Below.refl _ _, ?_⟩;  exact public_li (HK7.out.below hw').2.1 (HK7.out.below hw').2.2.1 (HK7.out.below hw').2.2.2 HOK.out.1 HOK.out.2.1) ?_)
  (refine told_step (fun v _ => v = _) (Stays.eq _) (by intro y w' hw' hd; simp only [depsOf, updG, Region.binds, Nat.reduceAdd, Nat.reduceEqDiff, if_false, if_true, and_true, true_and, forall_const, Array.toList, GTrue] at hd; have y0 := Y0 w' hw'; have y1 := Y1 w' hw'; have y2 := Y2 w' hw'; have y3 := Y3 w' hw'; unfold toldAt; go_simp; exact ⟨Below.refl _ _, rfl⟩) ?_)
  (refine told_step (fun v _ => v = .int .i64 0) ( Stays.eq _) (by intro y w' hw' hd; simp only [depsOf, updG, Region.binds, Nat.reduceAdd, Nat.reduceEqDiff, if_false, if_true, and_true, true_and, forall_const, Array.toList, GTrue] at hd;  (try go_split_ands); obtain ⟨v0, v1, v2, ev, r0, r1, r2⟩ : GPub L1 L2 (y 8) w' := (by (with_reducible assumption)); unfold toldAt; go_simp; refine ⟨Below.refl _ _, ?_⟩; have hc := vcheck_any w' r0 r1 r2 HOK.out.1 HOK.out.2.1 HOK.out.2.2.2 ⟨ts', fs', A', n', c', ds', B', m', d', ss'⟩ (HV7.out.below hw').2 g1 (by show m' ≤ _; rw [HQ.out.2]; exact HSS.out.1); rw [HC.out.1 ⟨ts', fs', A', n', c', ds', B', m', d', ss'⟩ (sigN_eq rfl rfl rfl rfl) HQ.out.1] at hc; exact hc) ?_)
  iterate 2 (refine told_step (fun v _ => v = _) (Stays.eq _) (by intro y w' hw' hd; simp only [depsOf, updG, Region.binds, Nat.reduceAdd, Nat.reduceEqDiff, if_false, if_true, and_true, true_and, forall_const, Array.toList, GTrue] at hd; (try go_split_ands); unfold toldAt; go_simp; exact ⟨Below.refl _ _, rfl⟩) ?_)
  (refine told_nil ?_; intro y w' hw' hd; replace hd := hd 12 (by decide); simp only [updG, Nat.reduceAdd, Nat.reduceEqDiff, if_false, if_true] at hd)
  replace hd : y 12 = .bool false := hd
  rw [hd]
  have HB8 := Lib.hid (HB7.out.trans (hw'.mono HB7.out.size))
  have HK8 := Lib.hid (HK7.out.below hw')
  have HV8 := Lib.hid (HV7.out.below hw')
  have HP8 := Lib.hid (And.intro (HP7.out.1.below hw' HP7.out.1.lt) (HP7.out.2.below hw' HP7.out.2.lt))
  have y0 := HP8.out.2.cell 0
  have y1 := HP8.out.2.cell 1
  have y2 := HP8.out.2.cell 2
  have y3 := HP8.out.2.cell 3
  have HCY := Lib.hid (HCU.out _ HB8.out)
  clear hd Z0 Z1 Z2 Y0 Y1 Y2 Y3 hw' HB7 HK7 HV7 HP7 HCU
  go_upto_region 8 with (go_at_call 42; refine HCY.out.mono ?_; rintro e w9 ⟨⟨tu, fu, Au, nu, cu, du, Bu, mu, eu, su⟩, rfl, hsm, hvo, hb9⟩; dsimp only)
  obtain ⟨hs1, hs2, hs3, hs4, hs5, hs6⟩ := hsm
  clear hs4 hs6
  replace hs1 : ts2 = tu := hs1
  replace hs2 : fs2 = fu := hs2
  replace hs3 : ds2 = du := hs3
  replace hs5 : n2 = nu := hs5
  subst hs1 hs2 hs3 hs5
  have hro : Rd .u8 w9 Au n2 cu ds2 := hvo.1.rd
  obtain ⟨g9, hg9⟩ : ∃ g, w9.heap.size = g := ⟨_, rfl⟩
  obtain ⟨wa, hwa⟩ : ∃ z, w9.alloc (.cells #[.int .u32 (ts2 : Int), .int .u32 (fs2 : Int), .slice Au n2 cu, .slice Bu mu eu] 66) = z := ⟨_, rfl⟩
  have hba : Below w9.heap.size w9 wa := by rw [← hwa]; exact (Below.refl _ _).alloc (Nat.le_refl _) _
  have hka : Bk wa g9 66 #[.int .u32 (ts2 : Int), .int .u32 (fs2 : Int), .slice Au n2 cu, .slice Bu mu eu] := by rw [← hwa, ← hg9]; exact Bk.new w9 _ _
  have hb8a := hb9.trans (hba.mono hb9.size)
  rw [hwa, hg9]
  have v3 := (HV8.out.below hb8a).1.cell 3
  have k3 := hka.cell 3
  have f3 := hka.frozen 3
  have HKA := Lib.hid hka
  have HBA := Lib.hid hba
  have HB9 := Lib.hid hb9
  have HRO := Lib.hid hro
  clear y0 y1 y2 y3 HCY hwa hvo hro hb9 hba hka hb8a
  go_upto_region 9 with (fail)
  obtain ⟨wb, hwb⟩ : ∃ z, wa.setCell ⟨g9, 3, none⟩ (.slice B' m' d') = z := ⟨_, rfl⟩
  have hkb : Bk wb g9 66 #[.int .u32 (ts2 : Int), .int .u32 (fs2 : Int), .slice Au n2 cu, .slice B' m' d'] := by rw [← hwb]; exact HKA.out.set 3 _
  have hb9b : Below w9.heap.size w9 wb := by rw [← hwb]; exact HBA.out.setCell (p := ⟨g9, 3, none⟩) (by show w9.heap.size ≤ g9; omega) _
  rw [hwb]
  have hb8b := HB9.out.trans (hb9b.mono HB9.out.size)
  have HKB := Lib.hid (HK8.out.below hb8b)
  have hv8b := HV8.out.below hb8b
  have HVB := Lib.hid (show VB wb g9 ⟨ts2, fs2, Au, n2, cu, ds2, B', m', d', ss'⟩ from ⟨hkb, HRO.out.below hb9b, hv8b.2.2.1, HU.out.2.2.1, HU.out.2.2.2.1, HU.out.2.2.2.2.1, hv8b.2.2.2.2.2.2⟩)
  have HBB := Lib.hid (HB8.out.trans (hb8b.mono HB8.out.size))
  have HPB := Lib.hid (And.intro (HP8.out.1.below hb8b HP8.out.1.lt) (HP8.out.2.below hb8b HP8.out.2.lt))
  clear hwb hkb hb9b hb8b hv8b v3 k3 f3 HKA HBA HB9 HRO HK8 HV8 HP8 HB8 hg9
  have y0 := HPB.out.1.cell 0
  have y1 := HPB.out.1.cell 1
  have y2 := HPB.out.1.cell 2
  have y3 := HPB.out.1.cell 3
  have HS1 := Lib.hid (HSV.out wb HBB.out)
  have TR1 := Lib.hid (fun w v (h : LI .u8 w v (cI (sigN ⟨ts', fs', A, n', c, ds', B, m, d, ss⟩))) => trunc_li h HT.out.1.1 HT.out.1.2 (k := 16) (by omega))
  have TR2 := Lib.hid (fun w v (h : LI .u8 w v (cI (sigN ⟨ts2, fs2, A2, n2, c2, ds2, B2, m2', d2, ss2⟩))) => trunc_li h HT.out.2.1 HT.out.2.2 (k := 16) (by omega))
  simp only [show ((16 : Nat) : Int) = 16 from rfl] at TR1 TR2
  clear HSV
  generalize hTA : truncL (cI (sigN ⟨ts', fs', A, n', c, ds', B, m, d, ss⟩)) 16 = TA at *
  generalize hTB : truncL (cI (sigN ⟨ts2, fs2, A2, n2, c2, ds2, B2, m2', d2, ss2⟩)) 16 = TB at *
  go_upto_region 10 with (first
    | (go_at_call 43; refine HS1.out.mono ?_; rintro e w11 ⟨Ax, cx, rfl, ho, hb11⟩; have H11 := Lib.hid hb11; have r11 := LI.of_Rd ho.rd; clear ho hb11)
    | (go_at_call 16; refine (TR1.out _ _ r11).mono ?_; rintro e w12 ⟨vt, rfl, rt, hb12⟩; have H12 := Lib.hid (H11.out.trans (hb12.mono H11.out.size)); have RT := Lib.hid rt; clear hb12 rt))
  clear y0 y1 y2 y3 r11 H11 HS1 TR1
  have HBC := Lib.hid (HBB.out.trans (H12.out.mono HBB.out.size))
  have HPC := Lib.hid (HPB.out.2.below H12.out HPB.out.2.lt)
  have y0 := HPC.out.cell 0
  have y1 := HPC.out.cell 1
  have y2 := HPC.out.cell 2
  have y3 := HPC.out.cell 3
  have HS2 := Lib.hid (HSU.out _ HBC.out)
  go_upto_region 11 with (first
    | (go_at_call 43; refine HS2.out.mono ?_; rintro e w13 ⟨Ay, cy, rfl, ho, hb11⟩; have H13 := Lib.hid hb11; have r13 := LI.of_Rd ho.rd; clear ho hb11)
    | (go_at_call 16; refine (TR2.out _ _ r13).mono ?_; rintro e w14 ⟨vu, rfl, ru, hb12⟩; have H14 := Lib.hid (H13.out.trans (hb12.mono H13.out.size)); have RU := Lib.hid ru; clear hb12 ru))
  clear y0 y1 y2 y3 r13 H13 HS2 TR2 HSU HPC
  have hb14 := H12.out.trans (H14.out.mono H12.out.size)
  have HBD := Lib.hid (HBC.out.trans (H14.out.mono HBC.out.size))
  have HK := Lib.hid (HKB.out.below hb14)
  have HV9 := Lib.hid (HVB.out.below hb14)
  have HRT := Lib.hid (RT.out.below H14.out)
  clear hb14 HPB HBB HBC HKB HVB RT H12 H14
  have Z0 := fun w' (h : Below w14.heap.size w14 w') => (HK.out.below h).1.cell 0
  have Z1 := fun w' (h : Below w14.heap.size w14 w') => (HK.out.below h).1.cell 1
  have Z2 := fun w' (h : Below w14.heap.size w14 w') => (HK.out.below h).1.cell 2
  have Y0 := fun w' (h : Below w14.heap.size w14 w') => (HV9.out.below h).1.cell 0
  have Y1 := fun w' (h : Below w14.heap.size w14 w') => (HV9.out.below h).1.cell 1
  have Y2 := fun w' (h : Below w14.heap.size w14 w') => (HV9.out.below h).1.cell 2
  have Y3 := fun w' (h : Below w14.heap.size w14 w') => (HV9.out.below h).1.cell 3
  have za := fun w' (h : Below w14.heap.size w14 w') => LI.conv (HRT.out.below h)
  have zb := fun w' (h : Below w14.heap.size w14 w') => LI.conv (RU.out.below h)
  (refine region_told _ (by kernel_rfl) (by kernel_rfl) (by simp only [putAll, Act.put, List.setIfInBounds_toArray, List.set_cons_zero, List.set_cons_succ, Nat.reduceAdd]; rfl) ?_)
  (refine told_step (fun v _ => v = _) (Stays.eq _) (by intro y w' hw' hd; simp only [depsOf, updG, Region.binds, Nat.reduceAdd, Nat.reduceEqDiff, if_false, if_true, and_true, true_and, forall_const, Array.toList, GTrue] at hd; (try go_split_ands); unfold toldAt; go_simp; refine ⟨Below.refl _ _, ?_⟩; exact valive_any w') ?_)
  (refine told_step (fun v _ => v = _) (Stays.eq _) (by intro y w' hw' hd; simp only [depsOf, updG, Region.binds, Nat.reduceAdd, Nat.reduceEqDiff, if_false, if_true, and_true, true_and, forall_const, Array.toList, GTrue] at hd; (try go_split_ands); unfold toldAt; go_simp; exact ⟨Below.refl _ _, rfl⟩) ?_)
  (refine told_step (fun v _ => v = _) (Stays.eq _) (by intro y w' hw' hd; simp only [depsOf, updG, Region.binds, Nat.reduceAdd, Nat.reduceEqDiff, if_false, if_true, and_true, true_and, forall_const, Array.toList, GTrue] at hd; have y0 := Z0 w' hw'; have y1 := Z1 w' hw'; have y2 := Z2 w' hw'; unfold toldAt; go_simp; exact ⟨Below.refl _ _, rfl⟩) ?_)
  (refine told_step (GPub L1 L2) ( GPub.stays _ _) (by intro y w' hw' hd; simp only [depsOf, updG, Region.binds, Nat.reduceAdd, Nat.reduceEqDiff, if_false, if_true, and_true, true_and, forall_const, Array.toList, GTrue] at hd; (try go_split_ands); unfold toldAt; go_simp; refine ⟨Below.refl _ _, ?_⟩;  exact public_li (HK.out.below hw').2.1 (HK.out.below hw').2.2.1 (HK.out.below hw').2.2.2 HOK.out.1 HOK.out.2.1) ?_)
  (refine told_step (fun v _ => v = _) (Stays.eq _) (by intro y w' hw' hd; simp only [depsOf, updG, Region.binds, Nat.reduceAdd, Nat.reduceEqDiff, if_false, if_true, and_true, true_and, forall_const, Array.toList, GTrue] at hd; have y0 := Y0 w' hw'; have y1 := Y1 w' hw'; have y2 := Y2 w' hw'; have y3 := Y3 w' hw'; unfold toldAt; go_simp; exact ⟨Below.refl _ _, rfl⟩) ?_)
  (refine told_step (fun v _ => v = .int .i64 (if q = true then 0 else 81)) ( Stays.eq _) (by intro y w' hw' hd; simp only [depsOf, updG, Region.binds, Nat.reduceAdd, Nat.reduceEqDiff, if_false, if_true, and_true, true_and, forall_const, Array.toList, GTrue] at hd;  (try go_split_ands); obtain ⟨v0, v1, v2, ev, r0, r1, r2⟩ : GPub L1 L2 (y 3) w' := (by (with_reducible assumption)); unfold toldAt; go_simp; refine ⟨Below.refl _ _, ?_⟩; have hc := vcheck_any w' r0 r1 r2 HOK.out.1 HOK.out.2.1 HOK.out.2.2.2 ⟨ts2, fs2, Au, n2, cu, ds2, B', m', d', ss'⟩ (HV9.out.below hw').2 g2 (by show m' ≤ _; rw [HQ.out.2]; exact HSS.out.1); rw [HC.out.2.1 ⟨ts2, fs2, Au, n2, cu, ds2, B', m', d', ss'⟩ (sigN_eq rfl rfl rfl rfl) HQ.out.1] at hc; exact hc) ?_)
  (refine told_step (fun v _ => v = .bool q) ( Stays.eq _) (by intro y w' hw' hd; simp only [depsOf, updG, Region.binds, Nat.reduceAdd, Nat.reduceEqDiff, if_false, if_true, and_true, true_and, forall_const, Array.toList, GTrue] at hd;  (try go_split_ands); unfold toldAt; cases q <;> (go_simp; exact Below.refl _ _)) ?_)
  (refine told_step (fun v _ => v = _) (Stays.eq _) (by intro y w' hw' hd; simp only [depsOf, updG, Region.binds, Nat.reduceAdd, Nat.reduceEqDiff, if_false, if_true, and_true, true_and, forall_const, Array.toList, GTrue] at hd; (try go_split_ands); unfold toldAt; go_simp; exact ⟨Below.refl _ _, rfl⟩) ?_)
  (refine told_step (fun v _ => v = _) (Stays.eq _) (by intro y w' hw' hd; simp only [depsOf, updG, Region.binds, Nat.reduceAdd, Nat.reduceEqDiff, if_false, if_true, and_true, true_and, forall_const, Array.toList, GTrue] at hd; have y0 := za w' hw'; unfold toldAt; go_simp; exact ⟨Below.refl _ _, rfl⟩) ?_)
  (refine told_step (fun v _ => v = _) (Stays.eq _) (by intro y w' hw' hd; simp only [depsOf, updG, Region.binds, Nat.reduceAdd, Nat.reduceEqDiff, if_false, if_true, and_true, true_and, forall_const, Array.toList, GTrue] at hd; (try go_split_ands); unfold toldAt; go_simp; exact ⟨Below.refl _ _, rfl⟩) ?_)
  (refine told_step (fun v _ => v = _) (Stays.eq _) (by intro y w' hw' hd; simp only [depsOf, updG, Region.binds, Nat.reduceAdd, Nat.reduceEqDiff, if_false, if_true, and_true, true_and, forall_const, Array.toList, GTrue] at hd; have y0 := zb w' hw'; unfold toldAt; go_simp; exact ⟨Below.refl _ _, rfl⟩) ?_)
  (refine told_step (fun v _ => v = .bool q) ( Stays.eq _) (by intro y w' hw' hd; simp only [depsOf, updG, Region.binds, Nat.reduceAdd, Nat.reduceEqDiff, if_false, if_true, and_true, true_and, forall_const, Array.toList, GTrue] at hd;  (try go_split_ands); have y0 := HC.out.2.2; unfold toldAt; go_simp; exact Below.refl _ _) ?_)
  (refine told_step (fun v _ => v = .bool true) ( Stays.eq _) (by intro y w' hw' hd; simp only [depsOf, updG, Region.binds, Nat.reduceAdd, Nat.reduceEqDiff, if_false, if_true, and_true, true_and, forall_const, Array.toList, GTrue] at hd;  (try go_split_ands); unfold toldAt; cases q <;> (go_simp; exact Below.refl _ _)) ?_)
  iterate 2 (refine told_step (fun v _ => v = _) (Stays.eq _) (by intro y w' hw' hd; simp only [depsOf, updG, Region.binds, Nat.reduceAdd, Nat.reduceEqDiff, if_false, if_true, and_true, true_and, forall_const, Array.toList, GTrue] at hd; (try go_split_ands); unfold toldAt; go_simp; exact ⟨Below.refl _ _, rfl⟩) ?_)
  (refine told_nil ?_; intro y w' hw' hd; replace hd := hd 14 (by decide); simp only [updG, Nat.reduceAdd, Nat.reduceEqDiff, if_false, if_true] at hd)
  replace hd : y 14 = .bool true := hd
  rw [hd]
  have HBF := Lib.hid (HBD.out.trans (hw'.mono HBD.out.size))
  clear hd Z0 Z1 Z2 Y0 Y1 Y2 Y3 za zb hw'
  go_wp2_with fail
  refine bodyPost_ret (v := .bool true) (by simp [results, Try.results8, go_sem]) rfl ⟨rfl, HBF.out⟩
set_option maxHeartbeats 4000000 in
theorem walk_ValuesHold (v u : Vl) (w : World) (hv : VR w v) (hu : VR w u) : Calls Try.prog 8 #[vv v, vv u] w fun e w' => e = .returned (.bool true) ∧ Below w.heap.size w w' := by
  by_cases hmain : longB v = false ∧ longB u = false ∧ v.n ≤ 2048 ∧ u.n ≤ 2048
  · exact vh_main v u w hv hu hmain.1 hmain.2.1 hmain.2.2.1 hmain.2.2.2
  have HLV := Lib.hid (fun w => vlong_any w v)
  have HLU := Lib.hid (fun w => vlong_any w u)
  obtain ⟨b1, hb1⟩ : ∃ b, longB v = b := ⟨_, rfl⟩
  obtain ⟨b2, hb2⟩ : ∃ b, longB u = b := ⟨_, rfl⟩
  rw [hb1] at HLV hmain
  rw [hb2] at HLU hmain
  clear hb1 hb2 hv hu
  obtain ⟨ts, fs, A, n, c, ds, B, m, d, ss⟩ := v
  obtain ⟨ts2, fs2, A2, n2, c2, ds2, B2, m2', d2, ss2⟩ := u
  replace hmain : ¬ (b1 = false ∧ b2 = false ∧ n ≤ 2048 ∧ n2 ≤ 2048) := hmain
  unfold vv at HLV HLU ⊢
  dsimp only at HLV HLU ⊢
  cases b1 with
  | true =>
    clear hmain
    go_enter Try.func8, Try.ntmps8
    go_upto_region 1 with (fail)
    obtain ⟨w1, hw1⟩ : ∃ x, (w.alloc (.cells #[.int .u32 (ts : Int), .int .u32 (fs : Int), .slice A n c, .slice B m d] 66)).alloc (.cells #[.int .u32 (ts2 : Int), .int .u32 (fs2 : Int), .slice A2 n2 c2, .slice B2 m2' d2] 66) = x := ⟨_, rfl⟩
    have hb1 : Below w.heap.size w w1 := by rw [← hw1]; exact ((Below.refl _ _).alloc (Nat.le_refl _) _).alloc (by simp) _
    have p1 : Bk w1 w.heap.size 66 #[.int .u32 (ts : Int), .int .u32 (fs : Int), .slice A n c, .slice B m d] := by rw [← hw1]; exact (Bk.new w _ _).alloc _
    have p2 : Bk w1 (w.heap.size + 1) 66 #[.int .u32 (ts2 : Int), .int .u32 (fs2 : Int), .slice A2 n2 c2, .slice B2 m2' d2] := by rw [← hw1]; exact Bk.at_new _ _ (by simp)
    rw [hw1]
    clear hw1
    have y0 := p1.cell 0
    have y1 := p1.cell 1
    have y2 := p1.cell 2
    have y3 := p1.cell 3
    have C2 := Lib.hid (fun w' (h : Below w1.heap.size w1 w') => (p1.below h p1.lt).cell 2)
    have D0 := Lib.hid (fun w' (h : Below w1.heap.size w1 w') => (p2.below h p2.lt).cell 0)
    have D1 := Lib.hid (fun w' (h : Below w1.heap.size w1 w') => (p2.below h p2.lt).cell 1)
    have D2 := Lib.hid (fun w' (h : Below w1.heap.size w1 w') => (p2.below h p2.lt).cell 2)
    have D3 := Lib.hid (fun w' (h : Below w1.heap.size w1 w') => (p2.below h p2.lt).cell 3)
    have HB1 := Lib.hid hb1
    clear p1 p2 hb1
    go_wp2_with (first
      | (go_at_call 38; refine (valive_any _).mono ?_; rintro e w4 ⟨rfl, hb⟩)
      | (go_at_call 37; (with_reducible refine (HLV.out _).mono ?_); rintro e w2 ⟨rfl, hb2⟩; have d0 := D0.out w2 hb2; have d1 := D1.out w2 hb2; have d2' := D2.out w2 hb2; have d3 := D3.out w2 hb2; have e2 := C2.out w2 hb2; have H2 := Lib.hid hb2; clear hb2)
      | (go_at_call 37; (with_reducible refine (HLU.out _).mono ?_); rintro e w3 ⟨rfl, hb3⟩; have H3 := Lib.hid (H2.out.trans (hb3.mono H2.out.size)); have e3 := C2.out w3 H3.out; have f3 := D2.out w3 H3.out; clear hb3))
    go_ret
    first
      | exact ⟨rfl, HB1.out.trans ((H3.out.trans (hb.mono H3.out.size)).mono HB1.out.size)⟩
      | exact ⟨rfl, HB1.out.trans ((H2.out.trans (hb.mono H2.out.size)).mono HB1.out.size)⟩
  | false =>
    cases b2 with
    | true =>
      clear hmain
      go_enter Try.func8, Try.ntmps8
      go_upto_region 1 with (fail)
      obtain ⟨w1, hw1⟩ : ∃ x, (w.alloc (.cells #[.int .u32 (ts : Int), .int .u32 (fs : Int), .slice A n c, .slice B m d] 66)).alloc (.cells #[.int .u32 (ts2 : Int), .int .u32 (fs2 : Int), .slice A2 n2 c2, .slice B2 m2' d2] 66) = x := ⟨_, rfl⟩
      have hb1 : Below w.heap.size w w1 := by rw [← hw1]; exact ((Below.refl _ _).alloc (Nat.le_refl _) _).alloc (by simp) _
      have p1 : Bk w1 w.heap.size 66 #[.int .u32 (ts : Int), .int .u32 (fs : Int), .slice A n c, .slice B m d] := by rw [← hw1]; exact (Bk.new w _ _).alloc _
      have p2 : Bk w1 (w.heap.size + 1) 66 #[.int .u32 (ts2 : Int), .int .u32 (fs2 : Int), .slice A2 n2 c2, .slice B2 m2' d2] := by rw [← hw1]; exact Bk.at_new _ _ (by simp)
      rw [hw1]
      clear hw1
      have y0 := p1.cell 0
      have y1 := p1.cell 1
      have y2 := p1.cell 2
      have y3 := p1.cell 3
      have C2 := Lib.hid (fun w' (h : Below w1.heap.size w1 w') => (p1.below h p1.lt).cell 2)
      have D0 := Lib.hid (fun w' (h : Below w1.heap.size w1 w') => (p2.below h p2.lt).cell 0)
      have D1 := Lib.hid (fun w' (h : Below w1.heap.size w1 w') => (p2.below h p2.lt).cell 1)
      have D2 := Lib.hid (fun w' (h : Below w1.heap.size w1 w') => (p2.below h p2.lt).cell 2)
      have D3 := Lib.hid (fun w' (h : Below w1.heap.size w1 w') => (p2.below h p2.lt).cell 3)
      have HB1 := Lib.hid hb1
      clear p1 p2 hb1
      go_wp2_with (first
        | (go_at_call 38; refine (valive_any _).mono ?_; rintro e w4 ⟨rfl, hb⟩)
        | (go_at_call 37; (with_reducible refine (HLV.out _).mono ?_); rintro e w2 ⟨rfl, hb2⟩; have d0 := D0.out w2 hb2; have d1 := D1.out w2 hb2; have d2' := D2.out w2 hb2; have d3 := D3.out w2 hb2; have e2 := C2.out w2 hb2; have H2 := Lib.hid hb2; clear hb2)
        | (go_at_call 37; (with_reducible refine (HLU.out _).mono ?_); rintro e w3 ⟨rfl, hb3⟩; have H3 := Lib.hid (H2.out.trans (hb3.mono H2.out.size)); have e3 := C2.out w3 H3.out; have f3 := D2.out w3 H3.out; clear hb3))
      go_ret
      first
        | exact ⟨rfl, HB1.out.trans ((H3.out.trans (hb.mono H3.out.size)).mono HB1.out.size)⟩
        | exact ⟨rfl, HB1.out.trans ((H2.out.trans (hb.mono H2.out.size)).mono HB1.out.size)⟩
    | false =>
      by_cases g1 : (2048 : Int) < (n : Int)
      · clear hmain
        go_enter Try.func8, Try.ntmps8
        go_upto_region 1 with (fail)
        obtain ⟨w1, hw1⟩ : ∃ x, (w.alloc (.cells #[.int .u32 (ts : Int), .int .u32 (fs : Int), .slice A n c, .slice B m d] 66)).alloc (.cells #[.int .u32 (ts2 : Int), .int .u32 (fs2 : Int), .slice A2 n2 c2, .slice B2 m2' d2] 66) = x := ⟨_, rfl⟩
        have hb1 : Below w.heap.size w w1 := by rw [← hw1]; exact ((Below.refl _ _).alloc (Nat.le_refl _) _).alloc (by simp) _
        have p1 : Bk w1 w.heap.size 66 #[.int .u32 (ts : Int), .int .u32 (fs : Int), .slice A n c, .slice B m d] := by rw [← hw1]; exact (Bk.new w _ _).alloc _
        have p2 : Bk w1 (w.heap.size + 1) 66 #[.int .u32 (ts2 : Int), .int .u32 (fs2 : Int), .slice A2 n2 c2, .slice B2 m2' d2] := by rw [← hw1]; exact Bk.at_new _ _ (by simp)
        rw [hw1]
        clear hw1
        have y0 := p1.cell 0
        have y1 := p1.cell 1
        have y2 := p1.cell 2
        have y3 := p1.cell 3
        have C2 := Lib.hid (fun w' (h : Below w1.heap.size w1 w') => (p1.below h p1.lt).cell 2)
        have D0 := Lib.hid (fun w' (h : Below w1.heap.size w1 w') => (p2.below h p2.lt).cell 0)
        have D1 := Lib.hid (fun w' (h : Below w1.heap.size w1 w') => (p2.below h p2.lt).cell 1)
        have D2 := Lib.hid (fun w' (h : Below w1.heap.size w1 w') => (p2.below h p2.lt).cell 2)
        have D3 := Lib.hid (fun w' (h : Below w1.heap.size w1 w') => (p2.below h p2.lt).cell 3)
        have HB1 := Lib.hid hb1
        clear p1 p2 hb1
        go_wp2_with (first
          | (go_at_call 38; refine (valive_any _).mono ?_; rintro e w4 ⟨rfl, hb⟩)
          | (go_at_call 37; (with_reducible refine (HLV.out _).mono ?_); rintro e w2 ⟨rfl, hb2⟩; have d0 := D0.out w2 hb2; have d1 := D1.out w2 hb2; have d2' := D2.out w2 hb2; have d3 := D3.out w2 hb2; have e2 := C2.out w2 hb2; have H2 := Lib.hid hb2; clear hb2)
          | (go_at_call 37; (with_reducible refine (HLU.out _).mono ?_); rintro e w3 ⟨rfl, hb3⟩; have H3 := Lib.hid (H2.out.trans (hb3.mono H2.out.size)); have e3 := C2.out w3 H3.out; have f3 := D2.out w3 H3.out; clear hb3))
        go_ret
        first
          | exact ⟨rfl, HB1.out.trans ((H3.out.trans (hb.mono H3.out.size)).mono HB1.out.size)⟩
          | exact ⟨rfl, HB1.out.trans ((H2.out.trans (hb.mono H2.out.size)).mono HB1.out.size)⟩
      · have g2 : (2048 : Int) < (n2 : Int) := by
          have : ¬ (n ≤ 2048 ∧ n2 ≤ 2048) := fun h => hmain ⟨rfl, rfl, h⟩
          omega
        clear hmain
        go_enter Try.func8, Try.ntmps8
        go_upto_region 1 with (fail)
        obtain ⟨w1, hw1⟩ : ∃ x, (w.alloc (.cells #[.int .u32 (ts : Int), .int .u32 (fs : Int), .slice A n c, .slice B m d] 66)).alloc (.cells #[.int .u32 (ts2 : Int), .int .u32 (fs2 : Int), .slice A2 n2 c2, .slice B2 m2' d2] 66) = x := ⟨_, rfl⟩
        have hb1 : Below w.heap.size w w1 := by rw [← hw1]; exact ((Below.refl _ _).alloc (Nat.le_refl _) _).alloc (by simp) _
        have p1 : Bk w1 w.heap.size 66 #[.int .u32 (ts : Int), .int .u32 (fs : Int), .slice A n c, .slice B m d] := by rw [← hw1]; exact (Bk.new w _ _).alloc _
        have p2 : Bk w1 (w.heap.size + 1) 66 #[.int .u32 (ts2 : Int), .int .u32 (fs2 : Int), .slice A2 n2 c2, .slice B2 m2' d2] := by rw [← hw1]; exact Bk.at_new _ _ (by simp)
        rw [hw1]
        clear hw1
        have y0 := p1.cell 0
        have y1 := p1.cell 1
        have y2 := p1.cell 2
        have y3 := p1.cell 3
        have C2 := Lib.hid (fun w' (h : Below w1.heap.size w1 w') => (p1.below h p1.lt).cell 2)
        have D0 := Lib.hid (fun w' (h : Below w1.heap.size w1 w') => (p2.below h p2.lt).cell 0)
        have D1 := Lib.hid (fun w' (h : Below w1.heap.size w1 w') => (p2.below h p2.lt).cell 1)
        have D2 := Lib.hid (fun w' (h : Below w1.heap.size w1 w') => (p2.below h p2.lt).cell 2)
        have D3 := Lib.hid (fun w' (h : Below w1.heap.size w1 w') => (p2.below h p2.lt).cell 3)
        have HB1 := Lib.hid hb1
        clear p1 p2 hb1
        go_wp2_with (first
          | (go_at_call 38; refine (valive_any _).mono ?_; rintro e w4 ⟨rfl, hb⟩)
          | (go_at_call 37; (with_reducible refine (HLV.out _).mono ?_); rintro e w2 ⟨rfl, hb2⟩; have d0 := D0.out w2 hb2; have d1 := D1.out w2 hb2; have d2' := D2.out w2 hb2; have d3 := D3.out w2 hb2; have e2 := C2.out w2 hb2; have H2 := Lib.hid hb2; clear hb2)
          | (go_at_call 37; (with_reducible refine (HLU.out _).mono ?_); rintro e w3 ⟨rfl, hb3⟩; have H3 := Lib.hid (H2.out.trans (hb3.mono H2.out.size)); have e3 := C2.out w3 H3.out; have f3 := D2.out w3 H3.out; clear hb3))
        go_ret
        first
          | exact ⟨rfl, HB1.out.trans ((H3.out.trans (hb.mono H3.out.size)).mono HB1.out.size)⟩
          | exact ⟨rfl, HB1.out.trans ((H2.out.trans (hb.mono H2.out.size)).mono HB1.out.size)⟩
end Go.Proofs.Ytdmglajfmfjmlaa
namespace Go.Proofs.Ytdmglajfmfjmlaa
set_option linter.unusedSimpArgs false
set_option linter.unusedVariables false
set_option maxRecDepth 100000
open Go.ChangeShapes Go.WideShapes Go.ChangeAt Go.RowKit Go.Joins Go.Deep
open Go.ChangeMaps (open_string shut_string)
theorem own_knob : ownKnob Try.prog.godebug = none := by kernel_rfl
theorem laid_out : laidOutB Try.prog = true := by kernel_rfl
end Go.Proofs.Ytdmglajfmfjmlaa
namespace Go.Proofs.Ytdmglajfmfjmlaa
set_option linter.unusedSimpArgs false
set_option linter.unusedVariables false
set_option maxRecDepth 100000
open Go.ChangeShapes Go.WideShapes Go.ChangeAt Go.RowKit
theorem nums_arg {H : Type} {enc : TypeId × Value → H} {P : Program} {W : World} {t e : TypeId} {k : IntKind} {A : Option Addr} {n c : Nat} {d : DataW H} {p : List MemPlace} (ht : P.underlying t = some (.slice e)) (he : P.underlying e = some (.int k)) (hc : P.cellsOf e = 1)
    (h0 : DataW.Trod enc P W 0 (fun _ => true) true t (.slice A n c) d p) (hk : ∀ z, (Lit.int k z).wf = true → 0 ≤ z) :
    ∃ xs : List Nat, (A = none → n = 0) ∧ Rd k W A n c xs ∧ ∀ x ∈ xs, (Lit.int k (x : Int)).wf = true := by
  obtain ⟨fuel, hf⟩ := h0
  rcases open_ints ht he hc hf with ⟨hcs, _⟩ | ⟨x, l, c', zs, hcs, _, hl, hm, hz, _, hcell, hwz⟩
  · simp [Value.cells] at hcs
    obtain ⟨rfl, rfl, rfl⟩ := hcs
    exact ⟨[], fun _ => rfl, Rd.nil _ _ _ _, by simp⟩
  · simp [Value.cells] at hcs
    obtain ⟨rfl, rfl, rfl⟩ := hcs
    simp only [if_true] at hz
    have nn : ∀ i, i < n → 0 ≤ zs.getD i 0 := fun i hi => by
      rw [List.getD_eq_getElem?_getD, List.getElem?_eq_getElem (by omega)]
      exact hk _ (hwz _ (List.getElem_mem _))
    refine ⟨(zs.take n).map Int.toNat, (fun h => by cases h), ⟨by rw [List.length_map, List.length_take]; omega, hl, by unfold maxLen at hm; omega, fun hn => ⟨x, rfl, ?_, fun j y hy => ?_⟩⟩, ?_⟩
    · have := World.block_lt_of_cell? W _ (hcell 0 (by omega))
      rwa [Go.ChangeShapes.block_add] at this
    · have hj : j < n := by
        rcases Nat.lt_or_ge j n with h | h
        · exact h
        · rw [List.getElem?_eq_none (by rw [List.length_map, List.length_take]; omega)] at hy; cases hy
      rw [hcell j (by omega)]
      have h1 := nn j hj
      rw [List.getD_eq_getElem?_getD, List.getElem?_eq_getElem (by omega)] at h1 ⊢
      rw [List.getElem?_map, List.getElem?_take, if_pos hj, List.getElem?_eq_getElem (by omega)] at hy
      simp only [Option.map_some, Option.some.injEq, Option.getD_some] at hy h1 ⊢
      congr 2; omega
    · intro y hy
      simp only [List.mem_map] at hy
      obtain ⟨z, hz', rfl⟩ := hy
      have hw := hwz z (List.mem_of_mem_take hz')
      rw [Int.toNat_of_nonneg (hk z hw)]
      exact hw
theorem u8_wf {z : Int} (h : (Lit.int .u8 z).wf = true) : 0 ≤ z ∧ z < 256 := by
  simp only [Lit.wf, Bool.and_eq_true, decide_eq_true_eq] at h
  have h1 : IntKind.u8.min = 0 := by decide
  have h2 : IntKind.u8.max = 255 := by decide
  omega
theorem u32_wf {z : Int} (h : (Lit.int .u32 z).wf = true) : 0 ≤ z ∧ z < 4294967296 := by
  simp only [Lit.wf, Bool.and_eq_true, decide_eq_true_eq] at h
  have h1 : IntKind.u32.min = 0 := by decide
  have h2 : IntKind.u32.max = 4294967295 := by decide
  omega
end Go.Proofs.Ytdmglajfmfjmlaa
namespace Go.Proofs.Ytdmglajfmfjmlaa
set_option linter.unusedSimpArgs false
set_option linter.unusedVariables false
set_option maxRecDepth 100000
open Go.RowKit Go.ChangeShapes Go.WideShapes Go.Deep Go.ChangeAt Go.Joins
section
variable {H : Type} {enc : TypeId × Value → H} {W : World}
theorem bytes_fld {fuel : Nat} {v : Value} {y : DataW H × List MemPlace} (h : DataW.trod enc Try.prog W 0 (fun _ => true) true fuel 22 [v] = some y) : ∃ (A : Option Addr) (n c : Nat) (xs : List Nat), v = .slice A n c ∧ Rd .u8 W A n c xs ∧ ∀ x ∈ xs, x < 256 := by
  have hv : ∃ (A : Option Addr) (n c : Nat), v = .slice A n c := by
    rcases open_ints Try.underlying22 Try.underlying5 (by kernel_rfl) h with ⟨hcs, _⟩ | ⟨x, l, c', zs, hcs, _⟩
    · exact ⟨_, _, _, by simpa using hcs⟩
    · exact ⟨_, _, _, by simpa using hcs⟩
  obtain ⟨A, n, c, rfl⟩ := hv
  obtain ⟨xs, _, h1, h2⟩ := nums_arg (H := H) (enc := enc) (d := y.1) (p := y.2) Try.underlying22 Try.underlying5 (by kernel_rfl) ⟨fuel, by simpa [Value.cells] using h⟩ (fun z h => (u8_wf h).1)
  exact ⟨A, n, c, xs, rfl, h1, fun x hx => by have := (u8_wf (h2 x hx)).2; omega⟩
theorem val_of {n0 n1 n2 n3 : Nat} {c0 c1 c2 c3 : Value} {y0 y1 y2 y3 : DataW H × List MemPlace} (z0 : DataW.trod enc Try.prog W 0 (fun _ => true) true n0 64 [c0] = some y0) (z1 : DataW.trod enc Try.prog W 0 (fun _ => true) true n1 64 [c1] = some y1)
    (z2 : DataW.trod enc Try.prog W 0 (fun _ => true) true n2 22 [c2] = some y2) (z3 : DataW.trod enc Try.prog W 0 (fun _ => true) true n3 22 [c3] = some y3) : ∃ x : Vl, c0 = .int .u32 (x.ts : Int) ∧ c1 = .int .u32 (x.fs : Int) ∧ c2 = .slice x.A x.n x.c ∧ c3 = .slice x.B x.m x.d ∧ VR W x := by
  obtain ⟨t0, e0, _, u0⟩ := DataW.trod_int Try.underlying64 z0
  obtain ⟨t1, e1, _, u1⟩ := DataW.trod_int Try.underlying64 z1
  obtain ⟨A, n, c, xs, e2, r2, b2⟩ := bytes_fld z2
  obtain ⟨B, m, d, ys, e3, r3, b3⟩ := bytes_fld z3
  simp only [List.cons.injEq, and_true] at e0 e1
  have w0 := u32_wf u0
  have w1 := u32_wf u1
  subst e0 e1 e2 e3
  refine ⟨⟨t0.toNat, t1.toNat, A, n, c, xs, B, m, d, ys⟩, ?_, ?_, rfl, rfl, r2, r3, ?_, ?_, b2, b3⟩
  · show Value.int .u32 t0 = .int .u32 ((t0.toNat : Nat) : Int); rw [Int.toNat_of_nonneg w0.1]
  · show Value.int .u32 t1 = .int .u32 ((t1.toNat : Nat) : Int); rw [Int.toNat_of_nonneg w1.1]
  · show t0.toNat < _; omega
  · show t1.toNat < _; omega
theorem val_arg {base : Nat} {v : Value} {d : DataW H} {p : List MemPlace} (hv : Value.okWide Try.prog W .any base 66 v) (h : DataW.Trod enc Try.prog W 0 (fun _ => true) true 66 v d p) : ∃ x : Vl, v = vv x ∧ VR W x := by
  obtain ⟨c0, c1, c2, c3, y0, y1, y2, y3, n, rfl, _, _, z0, z1, z2, z3⟩ := open_agg4 Try.underlying66 (by kernel_rfl) (by kernel_rfl) hv h
  obtain ⟨x, rfl, rfl, rfl, rfl, hr⟩ := val_of z0 z1 z2 z3
  exact ⟨x, rfl, hr⟩
end
end Go.Proofs.Ytdmglajfmfjmlaa
