/- Rows of intervals and of ways as arguments; what a filter of a right clock holds. -/
import Derived.Test.YteemglgbhdpodaaZ4
import Derived.Test.YteemglgbhdpodaaK0
import Derived.SizedLaws
namespace Go.Proofs.Yteemglgbhdpodaa
set_option linter.unusedSimpArgs false
set_option linter.unusedVariables false
set_option maxRecDepth 100000
open Go.RowKit Go.ChangeShapes Go.WideShapes Go.Deep

section
variable {H : Type} {enc : TypeId × Value → H} {P : Program} {w : World} {base : Nat} {spare : Nat → Bool} {held : Bool}
theorem open_slice_fields {t e : TypeId} {fs : Array Field} {fuel : Nat} {cs : List Value} {x : DataW H × List MemPlace} (ht : P.underlying t = some (.slice e)) (he : P.underlying e = some (.struct fs))
    (hone : oneCellFields P fs = true) (hC : P.cellsOf e = fs.size) (h : DataW.trod enc P w base spare held fuel t cs = some x) :
    (cs = [.slice none 0 0] ∧ x = (.nil, [])) ∨
    ∃ (a : Addr) (len cap m : Nat) (D : Nat → DataW H) (Pl : Nat → List MemPlace), cs = [.slice (some a) len cap] ∧ base ≤ a.block ∧ len ≤ cap ∧ cap ≤ maxLen ∧ m = (if spare a.block then cap else len) ∧
      x = (.slice ((List.range len).map D) ((List.range (m - len)).map fun j => D (len + j)), MemPlace.row a (m * fs.size) ++ (List.range m).flatMap Pl) ∧
      ∀ i, i < m → ∃ (ys : List (DataW H × List MemPlace)) (n : Nat), D i = .agg (ys.map (·.1)) ∧ Pl i = ys.flatMap (·.2) ∧ ys.length = fs.size ∧
        ∀ (j : Nat) (f : Field), fs[j]? = some f → ∃ (v : Value) (y : DataW H × List MemPlace), w.cell? (a.add (i * fs.size + j)) = some v ∧ ys[j]? = some y ∧ DataW.trod enc P w base spare held n f.type [v] = some y := by
  rcases open_slice ht h with h0 | ⟨a, len, cap, m, n, D, Pl, hcs, hb, hl, hm, hmm, hx, hi⟩
  · exact .inl h0
  · refine .inr ⟨a, len, cap, m, D, Pl, hcs, hb, hl, hm, hmm, by rw [hC] at hx; exact hx, fun i him => ?_⟩
    obtain ⟨cs', hc, ht'⟩ := hi i him
    rw [hC] at hc
    obtain ⟨ys, n', hn', hy, hlen, hyl, hf⟩ := DataW.trod_struct he ht'
    obtain ⟨_, hcl, hat⟩ := World.cells?_some hc
    simp only [Prod.mk.injEq] at hy
    refine ⟨ys, n', hy.1, hy.2, hyl, fun j f hj => ?_⟩
    obtain ⟨ho, hk⟩ := hone_of hone j f hj
    have hjl : j < fs.size := (Array.getElem?_eq_some_iff.1 hj).1
    have hcell := hat j hjl
    have hv : cs'[j]? = some (cs'[j]'(by omega)) := List.getElem?_eq_getElem (by omega)
    have h1 := hf j f hj
    rw [ho, hk] at h1
    have hone' : (cs'.drop j).take 1 = [cs'[j]'(by omega)] := by
      rw [List.drop_eq_getElem_cons (by omega)]
      rfl
    rw [hone'] at h1
    have hys : ys[j]? = some (ys[j]'(by omega)) := List.getElem?_eq_getElem (by omega)
    refine ⟨_, _, ?_, hys, h1.trans hys⟩
    rw [← Go.Deep.add_add, hcell, hv]
end
theorem spans_arg {H : Type} {enc : TypeId × Value → H} {W : World} {A : Option Addr} {n c : Nat} {d : DataW H} {p : List MemPlace} {ts : List TypeId} {ds : List (DataW H)} {i : Nat}
    (hsz : (DataW.weightsEach Try.prog ts ds).all (· ≤ reachBytes) = true) (hti : ts[i]? = some 70) (hdi : ds[i]? = some d)
    (h0 : DataW.Trod enc Try.prog W 0 (fun _ => true) true 70 (.slice A n c) d p) : (∃ ss : List Sp, RdK spE 3 W A n c ss) ∧ n ≤ 140737488351232 := by
  obtain ⟨fuel, hf⟩ := h0
  rcases open_slice_fields Try.underlying70 Try.underlying72 (by kernel_rfl) (by kernel_rfl) hf with ⟨hcs, _⟩ | ⟨ad, len, cap, m, D, Pl, hcs, hb, hl, hm, hmm, hx, hi⟩
  · simp [Value.cells] at hcs
    obtain ⟨rfl, rfl, rfl⟩ := hcs
    exact ⟨⟨[], rfl, Nat.le_refl _, by decide, fun h => absurd h (by decide)⟩, by omega⟩
  · simp [Value.cells] at hcs
    obtain ⟨rfl, rfl, rfl⟩ := hcs
    simp only [if_true] at hmm
    have hbd : n ≤ 140737488351232 := by
      obtain ⟨hx, _⟩ := Prod.mk.inj hx
      subst hx
      have z := sized_slice hsz hti hdi Try.underlying70
      rw [show Try.prog.bytesOf 72 = 24 from by kernel_rfl] at z
      simp only [List.length_map, List.length_range] at z
      have : reachBytes = 140737488351232 := rfl
      omega
    refine ⟨?_, hbd⟩
    have H : ∀ i, ∃ s : Sp, i < n → W.cell? (ad.add (i * 3)) = some (.int .i64 s.1) ∧ W.cell? (ad.add (i * 3 + 1)) = some (.int .i64 s.2.1) ∧ W.cell? (ad.add (i * 3 + 2)) = some (.int .i64 s.2.2) := by
      intro i
      by_cases hin : i < n
      · obtain ⟨ys, k, _, _, _, hfj⟩ := hi i (by omega)
        obtain ⟨v0, y0, c0, _, z0⟩ := hfj 0 _ rfl
        obtain ⟨v1, y1, c1, _, z1⟩ := hfj 1 _ rfl
        obtain ⟨v2, y2, c2, _, z2⟩ := hfj 2 _ rfl
        obtain ⟨x0, e0, _, _⟩ := DataW.trod_int Try.underlying2 z0
        obtain ⟨x1, e1, _, _⟩ := DataW.trod_int Try.underlying2 z1
        obtain ⟨x2, e2, _, _⟩ := DataW.trod_int Try.underlying2 z2
        simp only [List.cons.injEq, and_true] at e0 e1 e2
        subst e0 e1 e2
        exact ⟨⟨x0, x1, x2⟩, fun _ => ⟨c0, c1, c2⟩⟩
      · exact ⟨(0, 0, 0), fun h => absurd h hin⟩
    obtain ⟨f, hf⟩ := Classical.axiomOfChoice H
    refine ⟨(List.range n).map f, by simp, hl, by unfold maxLen at hm; omega, fun hn => ⟨ad, rfl, ?_, fun j x hx k hk => ?_⟩⟩
    · have := World.block_lt_of_cell? W _ (hf 0 hn).1
      rwa [Go.ChangeShapes.block_add] at this
    · have hj : j < n := by
        rcases Nat.lt_or_ge j n with h | h
        · exact h
        · rw [List.getElem?_eq_none (by simpa using h)] at hx; cases hx
      rw [List.getElem?_map, List.getElem?_range hj] at hx
      obtain rfl := Option.some.inj hx
      obtain ⟨q0, q1, q2⟩ := hf j hj
      rcases (show k = 0 ∨ k = 1 ∨ k = 2 by omega) with rfl | rfl | rfl
      · exact q0
      · exact q1
      · exact q2
theorem ways_arg {H : Type} {enc : TypeId × Value → H} {W : World} {A : Option Addr} {n c : Nat} {d : DataW H} {p : List MemPlace} {ts : List TypeId} {ds : List (DataW H)} {i : Nat}
    (hsz : (DataW.weightsEach Try.prog ts ds).all (· ≤ reachBytes) = true) (hti : ts[i]? = some 69) (hdi : ds[i]? = some d)
    (h0 : DataW.Trod enc Try.prog W 0 (fun _ => true) true 69 (.slice A n c) d p) : (∃ ss : List Sp, RdK spE 3 W A n c ss) ∧ n ≤ 140737488351232 := by
  obtain ⟨fuel, hf⟩ := h0
  rcases open_slice_fields Try.underlying69 Try.underlying59 (by kernel_rfl) (by kernel_rfl) hf with ⟨hcs, _⟩ | ⟨ad, len, cap, m, D, Pl, hcs, hb, hl, hm, hmm, hx, hi⟩
  · simp [Value.cells] at hcs
    obtain ⟨rfl, rfl, rfl⟩ := hcs
    exact ⟨⟨[], rfl, Nat.le_refl _, by decide, fun h => absurd h (by decide)⟩, by omega⟩
  · simp [Value.cells] at hcs
    obtain ⟨rfl, rfl, rfl⟩ := hcs
    simp only [if_true] at hmm
    have hbd : n ≤ 140737488351232 := by
      obtain ⟨hx, _⟩ := Prod.mk.inj hx
      subst hx
      have z := sized_slice hsz hti hdi Try.underlying69
      rw [show Try.prog.bytesOf 59 = 24 from by kernel_rfl] at z
      simp only [List.length_map, List.length_range] at z
      have : reachBytes = 140737488351232 := rfl
      omega
    refine ⟨?_, hbd⟩
    have H : ∀ i, ∃ s : Sp, i < n → W.cell? (ad.add (i * 3)) = some (.int .i64 s.1) ∧ W.cell? (ad.add (i * 3 + 1)) = some (.int .i64 s.2.1) ∧ W.cell? (ad.add (i * 3 + 2)) = some (.int .i64 s.2.2) := by
      intro i
      by_cases hin : i < n
      · obtain ⟨ys, k, _, _, _, hfj⟩ := hi i (by omega)
        obtain ⟨v0, y0, c0, _, z0⟩ := hfj 0 _ rfl
        obtain ⟨v1, y1, c1, _, z1⟩ := hfj 1 _ rfl
        obtain ⟨v2, y2, c2, _, z2⟩ := hfj 2 _ rfl
        obtain ⟨x0, e0, _, _⟩ := DataW.trod_int Try.underlying2 z0
        obtain ⟨x1, e1, _, _⟩ := DataW.trod_int Try.underlying2 z1
        obtain ⟨x2, e2, _, _⟩ := DataW.trod_int Try.underlying2 z2
        simp only [List.cons.injEq, and_true] at e0 e1 e2
        subst e0 e1 e2
        exact ⟨⟨x0, x1, x2⟩, fun _ => ⟨c0, c1, c2⟩⟩
      · exact ⟨(0, 0, 0), fun h => absurd h hin⟩
    obtain ⟨f, hf⟩ := Classical.axiomOfChoice H
    refine ⟨(List.range n).map f, by simp, hl, by unfold maxLen at hm; omega, fun hn => ⟨ad, rfl, ?_, fun j x hx k hk => ?_⟩⟩
    · have := World.block_lt_of_cell? W _ (hf 0 hn).1
      rwa [Go.ChangeShapes.block_add] at this
    · have hj : j < n := by
        rcases Nat.lt_or_ge j n with h | h
        · exact h
        · rw [List.getElem?_eq_none (by simpa using h)] at hx; cases hx
      rw [List.getElem?_map, List.getElem?_range hj] at hx
      obtain rfl := Option.some.inj hx
      obtain ⟨q0, q1, q2⟩ := hf j hj
      rcases (show k = 0 ∨ k = 1 ∨ k = 2 by omega) with rfl | rfl | rfl
      · exact q0
      · exact q1
      · exact q2
theorem rg_mem {ss : List Smp} {k : Nat} (h : k < ss.length) : rg ss k ∈ ss := by
  unfold rg; rw [List.getD_eq_getElem?_getD, List.getElem?_eq_getElem h]; exact List.getElem_mem h
theorem rg_set {ss : List Smp} {k j : Nat} (h : k < ss.length) (s : Smp) : rg (ss.set k s) j = if j = k then s else rg ss j := by
  unfold rg
  rw [List.getD_eq_getElem?_getD, List.getD_eq_getElem?_getD, List.getElem?_set]
  by_cases hj : k = j
  · subst hj; rw [if_pos rfl, if_pos rfl, if_pos h]; rfl
  · rw [if_neg hj, if_neg (Ne.symm hj)]
theorem swp_mem {ss : List Smp} {j : Nat} (h : j < ss.length) {x : Smp} (hx : x ∈ swp ss j) : x ∈ ss := by
  unfold swp at hx
  rcases List.mem_or_eq_of_mem_set hx with h1 | h1
  · rcases List.mem_or_eq_of_mem_set h1 with h2 | h2
    · exact h2
    · rw [h2]; exact rg_mem (by omega)
  · rw [h1]; exact rg_mem h
theorem bub_mem (now : Int) : ∀ (j : Nat) (ss : List Smp), j < ss.length → ∀ x ∈ bub now j ss, x ∈ ss
  | 0, _, _, _, h => h
  | j + 1, ss, hj, x, h => by
    unfold bub at h
    split at h
    · exact swp_mem hj (bub_mem now j _ (by rw [swp_len]; omega) x h)
    · exact h
theorem isn_mem (now : Int) (ss : List Smp) : ∀ k, (k < ss.length ∨ k = 0) → ∀ x ∈ isn now ss k, x ∈ ss
  | 0, _, _, h => h
  | k + 1, hk, x, h => isn_mem now ss k (by omega) x (bub_mem now (k + 1) _ (by rw [isn_len]; omega) x h)
/-- a sample that a right clock may give -/
def PS (o : Int) (s : Smp) : Prop := mayB s = true ∧ s.o - s.d - 1 ≤ o ∧ o ≤ s.o + s.d + 1 ∧ -1099511627776 ≤ s.o ∧ s.o ≤ 1099511627776 ∧ 0 ≤ s.d ∧ s.d ≤ 1099511627776
def waS (o : Int) (x : Sp) : Smp := ⟨(smN x.1 + 2 * o - smN x.2.2) / 2, smN x.1 + smN x.2.2, 0, 0⟩
theorem waS_PS {o : Int} (h : -68719476736 < o ∧ o < 68719476736) (x : Sp) : PS o (waS o x) := by
  have h1 := smN_bd x.1
  have h2 := smN_bd x.2.2
  have e1 : (waS o x).o = (smN x.1 + 2 * o - smN x.2.2) / 2 := rfl
  have e2 : (waS o x).d = smN x.1 + smN x.2.2 := rfl
  have e3 : (waS o x).p = 0 := rfl
  have e4 : (waS o x).a = 0 := rfl
  unfold PS
  rw [mayB_iff, e1, e2, e3, e4]
  omega
/-- what a filter's ring holds -/
def KP (o : Int) (R : List Smp) (n : Nat) : Prop := ∀ j, j < n → PS o (rg R j)
theorem KP.add {o : Int} {R : List Smp} {n : Nat} (h : KP o R n) (hR : R.length = 8) (hn : n < 8) {s : Smp} (hs : PS o s) : KP o (R.set (n % 8) s) (n + 1) := by
  intro j hj
  rw [rg_set (by omega)]
  by_cases hj2 : j = n % 8
  · rw [if_pos hj2]; exact hs
  · rw [if_neg hj2]; exact h j (by omega)
theorem KP.best {o : Int} {R : List Smp} {n : Nat} (h : KP o R n) (h0 : 0 < n) (hn : n ≤ 8) (now : Int) : PS o (bestN R n now) := by
  unfold bestN
  rw [if_neg (by omega)]
  have h1 := rg_mem (ss := rowN R n now) (k := 0) (by rw [rowN_len]; omega)
  unfold rowN at h1
  have h2 := isn_mem now _ _ (by rw [newest_len]; omega) _ h1
  unfold newest at h2
  rw [List.mem_map] at h2
  obtain ⟨i, hi, e⟩ := h2
  rw [List.mem_range] at hi
  have h3 := h ((n - 1 - i) % 8) (by omega)
  rw [e] at h3
  exact h3
/-- an interval of a right clock -/
def GS (o : Int) (x : Sp) : Prop := badB x = false ∧ x.1 ≤ o ∧ o ≤ x.2.2
def spS (s : Smp) : Sp := (s.o - s.d - 1, s.o, s.o + s.d + 1)
theorem PS.gs {o : Int} {s : Smp} (h : PS o s) : GS o (spS s) := by
  obtain ⟨_, h1, h2, h3, h4, h5, h6⟩ := h
  refine ⟨?_, h1, h2⟩
  unfold badB spS
  simp; omega
theorem cover_app (a b : List Sp) (o : Int) : coverN (a ++ b) o = coverN a o + coverN b o := by
  induction a with
  | nil => simp [coverN]
  | cons s a ih =>
    have e1 : coverN (s :: a ++ b) o = (if s.1 ≤ o ∧ o ≤ s.2.2 then (1 : Int) else 0) + coverN (a ++ b) o := rfl
    have e2 : coverN (s :: a) o = (if s.1 ≤ o ∧ o ≤ s.2.2 then (1 : Int) else 0) + coverN a o := rfl
    rw [e1, e2, ih]; omega
theorem cover_ge (a : List Sp) (o : Int) : 0 ≤ coverN a o := by
  induction a with
  | nil => simp [coverN]
  | cons s a ih =>
    have e2 : coverN (s :: a) o = (if s.1 ≤ o ∧ o ≤ s.2.2 then (1 : Int) else 0) + coverN a o := rfl
    rw [e2]; split <;> omega
theorem cover_all (a : List Sp) (o : Int) (h : ∀ x ∈ a, GS o x) : coverN a o = a.length := by
  induction a with
  | nil => simp [coverN]
  | cons s a ih =>
    have e2 : coverN (s :: a) o = (if s.1 ≤ o ∧ o ≤ s.2.2 then (1 : Int) else 0) + coverN a o := rfl
    have h1 := h s (by simp)
    rw [e2, ih (fun x hx => h x (by simp [hx])), if_pos h1.2]
    simp only [List.length_cons]; omega
theorem badB_le {x : Sp} (h : badB x = false) : x.1 ≤ x.2.2 := by
  unfold badB at h
  simp only [Bool.or_eq_false_iff, decide_eq_false_iff_not] at h
  omega
/-- the majority is right -/
theorem major_pure {ls zs : List Sp} {o : Int} {l : List En} (h1 : ∀ x ∈ ls, badB x = false) (h2 : ∀ x ∈ zs, GS o x) (h3 : ls.length < zs.length) (hp : l.Perm (endsN (ls ++ zs))) (hs : l.Pairwise (fun a b => ahB b a = false)) :
    ∃ lo hi : Int, lo ≤ o ∧ o ≤ hi ∧ (if (runR ((ls ++ zs).length : Nat) l (0, false, 0, 0)).2.1 = true then (#[.int .i64 (runR ((ls ++ zs).length : Nat) l (0, false, 0, 0)).2.2.1, .int .i64 (runR ((ls ++ zs).length : Nat) l (0, false, 0, 0)).2.2.2, .int .i64 0] : Array Value) else #[.int .i64 0, .int .i64 0, .int .i64 150]) = #[.int .i64 lo, .int .i64 hi, .int .i64 0] := by
  have h := region_pure (sp := ls ++ zs) (o := o) (l := l) (fun s hs => by
    rcases List.mem_append.1 hs with h | h
    · exact badB_le (h1 s h)
    · exact badB_le (h2 s h).1) (by
    rw [cover_app, cover_all zs o h2, List.length_append]
    have := cover_ge ls o
    omega) hp hs
  exact ⟨_, _, h.2.1, h.2.2, by rw [if_pos h.1]⟩
end Go.Proofs.Yteemglgbhdpodaa
