/- Layer 13: no point lies less far than the nearest one: the walk. -/
import Derived.Test.YtlagbacljobbcaaPd
import Derived.Test.YtlagbacljobbcaaTt
namespace Go.Proofs.Ytlagbacljobbcaa
set_option linter.unusedSimpArgs false
set_option linter.unusedVariables false
open Go.RowKit Go.ChangeShapes Go.WideShapes Go.ChangeAt
attribute [local go_sem] toldUpon_value toldUpon_skip toldUpon_enter call_bits call_frombits

def ivs (xs : List Int) : List Value := xs.map fun x => .int .i64 x
theorem ivs_len (xs : List Int) : (ivs xs).length = xs.length := by simp [ivs]
theorem i64s_arg {H : Type} {enc : TypeId × Value → H} {P : Program} {W : World} {t e : TypeId} {A : Option Addr} {n c : Nat} {d : DataW H} {p : List MemPlace} (ht : P.underlying t = some (.slice e)) (he : P.underlying e = some (.int .i64)) (hc : P.cellsOf e = 1)
    (h0 : DataW.Trod enc P W 0 (fun _ => true) true t (.slice A n c) d p) : ∃ xs : List Int, RdV W A n c (ivs xs) := by
  obtain ⟨fuel, hf⟩ := h0
  rcases open_ints ht he hc hf with ⟨hcs, _⟩ | ⟨x, l, c', zs, hcs, _, hl, hm, hz, _, hcell, hwz⟩
  · simp [Value.cells] at hcs
    obtain ⟨rfl, rfl, rfl⟩ := hcs
    exact ⟨[], RdV.nil _ _ _⟩
  · simp [Value.cells] at hcs
    obtain ⟨rfl, rfl, rfl⟩ := hcs
    simp only [if_true] at hz
    refine ⟨zs.take n, by rw [ivs_len, List.length_take]; omega, hl, by unfold maxLen at hm; omega, fun hn => ⟨x, rfl, ?_, fun j u hu => ?_⟩⟩
    · have := World.block_lt_of_cell? W _ (hcell 0 (by omega))
      rwa [Go.ChangeShapes.block_add] at this
    · have hj : j < n := by
        rcases Nat.lt_or_ge j n with h | h
        · exact h
        · rw [List.getElem?_eq_none (by rw [ivs_len, List.length_take]; omega)] at hu; cases hu
      rw [hcell j (by omega)]
      unfold ivs at hu
      rw [List.getElem?_map, List.getElem?_take, if_pos hj, List.getElem?_eq_getElem (by omega)] at hu
      rw [List.getD_eq_getElem?_getD, List.getElem?_eq_getElem (by omega)]
      simpa using hu
/-- a number brought near -/
def nr (x : Int) : Int := Int.tmod x 1099511627776
theorem nr_small (x : Int) : (nr x).natAbs < 1099511627776 := tmod_small x
def pz (xs ys : List Int) : List (Nat × Nat) := (xs.zip ys).map fun p => (fi (nr p.1), fi (nr p.2))
def gi (xs : List Int) (k : Nat) : Int := xs.getD k 0
theorem gi_get {xs : List Int} {k : Nat} (h : k < xs.length) : (ivs xs)[k]? = some (.int .i64 (gi xs k)) := by
  unfold ivs gi; rw [List.getElem?_map, List.getElem?_eq_getElem h, List.getD_eq_getElem?_getD, List.getElem?_eq_getElem h]; rfl
theorem pz_len {xs ys : List Int} (h : xs.length = ys.length) : (pz xs ys).length = xs.length := by simp [pz, h]
theorem pz_at {xs ys : List Int} {k : Nat} (h : xs.length = ys.length) (hk : k < xs.length) : (pz xs ys)[k]'(by rw [pz_len h]; exact hk) = (fi (nr (gi xs k)), fi (nr (gi ys k))) := by
  simp only [pz, List.getElem_map, List.getElem_zip, gi]
  rw [List.getD_eq_getElem?_getD, List.getElem?_eq_getElem hk, List.getD_eq_getElem?_getD, List.getElem?_eq_getElem (by omega)]
  rfl
theorem fi_iv {n : Int} (h : n.natAbs < 1099511627776) : IV (mk (fi n)) n := IV.mk_fi (Sm.of (by omega))
/-- how far the k-th point lies -/
def dist (xs ys : List Int) (c d : Int) (k : Nat) : Int := mxd (nr (gi xs k)) (nr (gi ys k)) (nr c) (nr d)
theorem farz_iv {xs ys : List Int} {c d : Int} {k : Nat} (h : xs.length = ys.length) (hk : k < xs.length) : IV (farz (pz xs ys) (mk (fi (nr c))) (mk (fi (nr d))) k) (dist xs ys c d k) := by
  have e : gz (pz xs ys) k = (fi (nr (gi xs k)), fi (nr (gi ys k))) := by
    unfold gz
    rw [List.getD_eq_getElem?_getD, List.getElem?_eq_getElem (by rw [pz_len h]; exact hk), pz_at h hk]; rfl
  have h1 := nr_small (gi xs k)
  have h2 := nr_small (gi ys k)
  have h3 := nr_small c
  have h4 := nr_small d
  unfold farz dist
  rw [e]
  exact (fi_iv h1).far (fi_iv h2) (fi_iv h3) (fi_iv h4) (Sm.of (by omega)) (Sm.of (by omega))
theorem IV.lt {o p : Option Nat} {n m : Int} (h : IV o n) (h' : IV p m) : flt o p = decide (n < m) := by
  unfold flt
  rw [h.order h']
  rcases Int.lt_trichotomy n m with h1 | h1 | h1
  · rw [Int.compare_eq_lt.2 h1]; simp [h1]
  · subst h1; rw [cmp_self]; simp
  · rw [Int.compare_eq_gt.2 h1]; have : ¬ n < m := by omega
    simp [this]
theorem best_min {xs ys : List Int} {c d : Int} (h : xs.length = ys.length) : ∀ k, k ≤ xs.length → ∀ b, best (pz xs ys) (mk (fi (nr c))) (mk (fi (nr d))) k = b →
    (0 < k → b < k) ∧ (∀ j, j < k → dist xs ys c d b ≤ dist xs ys c d j) ∧ (∀ j, j < b → dist xs ys c d b < dist xs ys c d j)
  | 0, _, b, hb => by subst hb; exact ⟨by omega, by intro j hj; omega, by intro j hj; unfold best at hj; omega⟩
  | k + 1, hk, b, hb => by
    obtain ⟨b0, hb0⟩ : ∃ b0, best (pz xs ys) (mk (fi (nr c))) (mk (fi (nr d))) k = b0 := ⟨_, rfl⟩
    obtain ⟨i1, i2, i3⟩ := best_min (c := c) (d := d) h k (by omega) b0 hb0
    have hlt : b0 < xs.length := by
      rcases Nat.eq_zero_or_pos k with h0 | h0
      · subst h0; unfold best at hb0; omega
      · have := i1 h0; omega
    have e := (farz_iv (c := c) (d := d) h (show k < xs.length by omega)).lt (farz_iv (c := c) (d := d) h hlt)
    unfold best at hb
    rw [hb0, e] at hb
    by_cases hd : dist xs ys c d k < dist xs ys c d b0
    · rw [if_pos (by simpa using hd)] at hb
      subst hb
      refine ⟨fun _ => by omega, fun j hj => ?_, fun j hj => ?_⟩
      · rcases Nat.lt_or_ge j k with h1 | h1
        · have := i2 j h1; omega
        · have : j = k := by omega
          subst this; omega
      · have := i2 j hj; omega
    · rw [if_neg (by simpa using hd)] at hb
      subst hb
      refine ⟨fun _ => ?_, fun j hj => ?_, i3⟩
      · rcases Nat.eq_zero_or_pos k with h0 | h0
        · subst h0; unfold best at hb0; omega
        · have := i1 h0; omega
      · rcases Nat.lt_or_ge j k with h1 | h1
        · exact i2 j h1
        · have : j = k := by omega
          subst this; omega
def GRdV (n : Nat) (us : List Value) : GFact := fun v w => ∃ A c, v = .slice A n c ∧ RdV w A n c us
theorem GRdV.stays (n : Nat) (us : List Value) : Stays (GRdV n us) := fun _ _ _ hb ⟨A, c, e, hr⟩ => ⟨A, c, e, hr.below hb⟩
theorem nearV (w : World) {x z : Int} (h : nr x = z) : Calls Try.prog 17 #[.int .i64 x] w fun e w' => e = .returned (.int .i64 z) ∧ w = w' := by
  subst h; exact near_any w x
theorem pointV (w : World) (x y : Int) : Calls Try.prog 16 #[.int .i64 x, .int .i64 y] w fun e w' => e = .returned (.complex .f64 (fi x) (fi y)) ∧ w = w' := point_any w x y
theorem quietV {P : Program} {f : FuncId} {args : Array Value} {w : World} {v : Value} (h : Calls P f args w fun e w' => e = .returned v ∧ w = w') :
    Calls P f args w fun e w' => e = .returned v ∧ Below w.heap.size w w' := h.mono (by rintro e w' ⟨rfl, rfl⟩; exact ⟨rfl, Below.refl _ _⟩)
def FV (n : Int) (v : Value) : Prop := ∃ u, v = .float .f64 u ∧ IV (mk u) n
theorem stays_FV (n : Int) : Stays (fun v _ => FV n v) := fun _ _ _ _ h => h
theorem IV.nlt {u v : Nat} {n m : Int} (h : IV (mk u) n) (h' : IV (mk v) m) (hm : m ≤ n) : (FloatKind.f64.format.order u v == some .lt) = false := by
  have h1 := h.lt h'
  unfold flt at h1
  rw [ford_mk] at h1
  exact h1.trans (by simp; omega)
theorem IV.nequ {u v : Nat} {n m : Int} (h : IV (mk u) n) (h' : IV (mk v) m) (hm : n ≠ m) : (FloatKind.f64.format.order u v == some .eq) = false := by
  have h1 := h.order h'
  rw [ford_mk] at h1
  have h2 : FloatKind.f64.format.order u v = some (compare n m) := h1
  rw [h2]
  rcases Int.lt_trichotomy n m with h3 | h3 | h3
  · rw [Int.compare_eq_lt.2 h3]; rfl
  · exact absurd h3 hm
  · rw [Int.compare_eq_gt.2 h3]; rfl
set_option maxRecDepth 100000 in
set_option maxHeartbeats 1000000 in
theorem walk_PlaneNear (A0 : Option Addr) (n0 c0 : Nat) (xs : List Int) (A1 : Option Addr) (n1 c1 : Nat) (ys : List Int) (c d : Int) (W : World) (rd0 : RdV W A0 n0 c0 (ivs xs)) (rd1 : RdV W A1 n1 c1 (ivs ys)) (_ : (Lit.int .i64 c).wf = true) (_ : (Lit.int .i64 d).wf = true) :
    Calls Try.prog 7 #[.slice A0 n0 c0, .slice A1 n1 c1, .int .i64 c, .int .i64 d] W fun e w' => e = .returned (.bool true) ∧ Below W.heap.size W w' := by
  have l0 : xs.length = n0 := by have := rd0.len; rwa [ivs_len] at this
  have l1 : ys.length = n1 := by have := rd1.len; rwa [ivs_len] at this
  have m0 := rd0.max
  have m1 := rd1.max
  go_enter Try.func7, Try.ntmps7
  by_cases h1 : (100 : Int) < (n0 : Int)
  · skip
    go_wp2_with (go_at_call 9; refine (palive_any _).mono ?_; rintro e w1 ⟨rfl, hb1⟩)
    go_ret
    exact ⟨rfl, hb1⟩
  by_cases h2 : n0 ≠ n1
  · have t2 : ((n0 : Int) == (n1 : Int)) = false := by simp; omega
    have t3 : ((n0 : Int) != (n1 : Int)) = true := by simp; omega
    clear l0 l1 h2
    go_wp2_with (go_at_call 9; refine (palive_any _).mono ?_; rintro e w1 ⟨rfl, hb1⟩)
    go_ret
    exact ⟨rfl, hb1⟩
  have h2 : n0 = n1 := by omega
  by_cases h3 : n0 = 0
  · have t2 : ((n0 : Int) == 0) = true := by simp; omega
    have H := Lib.hid h3
    clear l0 l1 h3
    subst h2
    go_wp2_with (go_at_call 9; refine (palive_any _).mono ?_; rintro e w1 ⟨rfl, hb1⟩)
    go_ret
    exact ⟨rfl, hb1⟩
  subst h2
  have t1 := decide_eq_false h1
  have t3 : ((n0 : Int) == 0) = false := by simp; omega
  have hn : n0 ≤ 100 := by omega
  have hxy : xs.length = ys.length := by omega
  have hzl : (pz xs ys).length = n0 := by rw [pz_len hxy]; exact l0
  have hmin := best_min (c := c) (d := d) hxy xs.length (Nat.le_refl _) _ rfl
  have hfz := fun k (hk : k < n0) => farz_iv (c := c) (d := d) hxy (show k < xs.length by omega)
  have hgz := fun k (hk : k < n0) => gz_get (zs := pz xs ys) (k := k) (by omega)
  have HPZ := fun k (hk : k < n0) => Lib.hid (pz_at hxy (show k < xs.length by omega))
  have hnear : nearN (pz xs ys) (mk (fi (nr c))) (mk (fi (nr d))) = best (pz xs ys) (mk (fi (nr c))) (mk (fi (nr d))) xs.length := by
    unfold nearN; rw [hzl, if_pos (fit_ok h3 (by omega)), l0]
  obtain ⟨b, hb⟩ : ∃ b, best (pz xs ys) (mk (fi (nr c))) (mk (fi (nr d))) xs.length = b := ⟨_, rfl⟩
  rw [hb] at hmin hnear
  rw [l0] at hmin
  obtain ⟨hbn, hm2, hm3⟩ := hmin
  have hbn := hbn (by omega)
  obtain ⟨zs, hzs⟩ : ∃ z, pz xs ys = z := ⟨_, rfl⟩
  have HZT : ∀ t (h : t < n0), Hid (cvs (zs.take t) ++ [.complex .f64 (fi (nr (gi xs t))) (fi (nr (gi ys t)))] = cvs (zs.take (t + 1))) := fun t h => Lib.hid (by
    subst hzs
    rw [← cvs_take _ _ (by omega), (HPZ t h).out])
  rw [hzs] at hfz hgz hnear hzl
  clear hzs hb HPZ hxy h1 h3
  have HN := Lib.hid hnear
  have ho : mk (fi (nr c)) = mk (fi (nr c)) := rfl
  obtain ⟨i1', hi1, hz1, hz1', hz1''⟩ := info_parts info_c
  obtain ⟨cc, hcc⟩ : ∃ x, nr c = x := ⟨_, rfl⟩
  obtain ⟨dd, hdd⟩ : ∃ x, nr d = x := ⟨_, rfl⟩
  have N1 := fun w => nearV w hcc
  have N2 := fun w => nearV w hdd
  have P1 := fun w => pointV w cc dd
  rw [hcc, hdd] at hfz HN
  clear hcc hdd hnear ho
  go_wp2_with fail
  go_loopw [9, 10] (fun u i wr => ∃ (t : Nat) (B : Option Addr) (k : Nat), t ≤ n0 ∧ i = .int .i64 (t : Int) ∧ u = .slice B t k ∧ OwnV 28 wr W.heap.size B t k (cvs (zs.take t)) ∧ Below W.heap.size W wr) (fun _ i _ => n0 - (intOf i).toNat)
  case atStart => exact ⟨0, none, 0, Nat.zero_le _, rfl, rfl, OwnV.nil _ _ _, Below.refl _ _⟩
  case round =>
    obtain ⟨t, B, k, ht, rfl, rfl, o1, hbel⟩ := hrel
    have hsr := hbel.size
    by_cases hlt : t < n0
    · obtain ⟨ad, rfl, hab, hac⟩ := (rd0.below hbel).form (by omega)
      obtain ⟨ae, rfl, hbb, hbc⟩ := (rd1.below hbel).form (by omega)
      have c1' := hac t _ (gi_get (by omega))
      have c2' := hbc t _ (gi_get (by omega))
      have HZ := HZT t hlt
      obtain ⟨x, hx⟩ : ∃ x, nr (gi xs t) = x := ⟨_, rfl⟩
      obtain ⟨yy, hy⟩ : ∃ x, nr (gi ys t) = x := ⟨_, rfl⟩
      have M1 := fun w => nearV w hx
      have M2 := fun w => nearV w hy
      rw [hx, hy] at HZ
      clear hx hy
      generalize gi xs t = x0 at c1' M1
      generalize gi ys t = y0 at c2' M2
      have Q1 := fun w => pointV w x yy
      have C1 : ∀ w', Below wr.heap.size wr w' → w'.cell? (ad.add t) = some (.int .i64 x0) := fun w' h => (h.cell (p := ad.add t) (adlt hab t)).trans c1'
      have C2 : ∀ w', Below wr.heap.size wr w' → w'.cell? (ae.add t) = some (.int .i64 y0) := fun w' h => (h.cell (p := ae.add t) (adlt hbb t)).trans c2'
      have a1 : (t : Int) < (n0 : Int) := by omega
      have a0 : (0 : Int) ≤ (t : Int) := by omega
      have O1 := Lib.hid o1
      have HBEL := Lib.hid hbel
      have i1 : IntKind.i64.wrap ((t : Int) + 1) = (t : Int) + 1 := IntWalk.i64_in _ (by omega)
      clear hac hbc c1' c2' o1 hbel HZT hfz hgz hm2 hm3 hzl rd0 rd1 l0 l1
      go_upto_region 7 with (fail)
      (refine region_told_tail 13 _ (by kernel_rfl) (by kernel_rfl) (by simp only [List.take_succ_cons, List.take_zero, putAll, Act.put, List.setIfInBounds_toArray, List.set_cons_zero, List.set_cons_succ, Nat.reduceAdd]; rfl) ?_; simp only [List.take_succ_cons, List.take_zero, List.drop_succ_cons, List.drop_zero])
      repeat (refine told_step (fun v _ => v = _) (Stays.eq _) (by intro y w' hw' hd; simp only [depsOf, updG, Region.binds, Nat.reduceAdd, Nat.reduceEqDiff, if_false, if_true, and_true, true_and, forall_const, Array.toList, GTrue] at hd; (try go_split_ands); unfold toldAt; go_simp; exact ⟨Below.refl _ _, rfl⟩) ?_)
      (refine told_step (fun v _ => v = .int .i64 x) (Stays.eq _) (by intro y w' hw' hd; simp only [depsOf, updG, Region.binds, Nat.reduceAdd, Nat.reduceEqDiff, if_false, if_true, and_true, true_and, forall_const, Array.toList, GTrue] at hd; (try go_split_ands); unfold toldAt; go_simp; exact ⟨Below.refl _ _, quietV (M1 w')⟩) ?_)
      repeat (refine told_step (fun v _ => v = _) (Stays.eq _) (by intro y w' hw' hd; simp only [depsOf, updG, Region.binds, Nat.reduceAdd, Nat.reduceEqDiff, if_false, if_true, and_true, true_and, forall_const, Array.toList, GTrue] at hd; (try go_split_ands); unfold toldAt; go_simp; exact ⟨Below.refl _ _, rfl⟩) ?_)
      (refine told_step (fun v _ => v = .int .i64 yy) (Stays.eq _) (by intro y w' hw' hd; simp only [depsOf, updG, Region.binds, Nat.reduceAdd, Nat.reduceEqDiff, if_false, if_true, and_true, true_and, forall_const, Array.toList, GTrue] at hd; (try go_split_ands); unfold toldAt; go_simp; exact ⟨Below.refl _ _, quietV (M2 w')⟩) ?_)
      (refine told_step (fun v _ => v = .complex .f64 (fi x) (fi yy)) (Stays.eq _) (by intro y w' hw' hd; simp only [depsOf, updG, Region.binds, Nat.reduceAdd, Nat.reduceEqDiff, if_false, if_true, and_true, true_and, forall_const, Array.toList, GTrue] at hd; (try go_split_ands); unfold toldAt; go_simp; exact ⟨Below.refl _ _, quietV (Q1 w')⟩) ?_)
      (refine told_step (GRdV 1 [.complex .f64 (fi x) (fi yy)]) (GRdV.stays _ _) (by intro y w' hw' hd; simp only [depsOf, updG, Region.binds, Nat.reduceAdd, Nat.reduceEqDiff, if_false, if_true, and_true, true_and, forall_const, Array.toList, GTrue] at hd; (try go_split_ands); unfold toldAt; go_simp; exact ⟨(Below.refl _ _).alloc (Nat.le_refl _) _, _, _, rfl, RdV.one (Bk.new w' 28 #[.complex .f64 (fi x) (fi yy)])⟩) ?_)
      (refine told_nil ?_; intro z w2 hw2 hd)
      have e0 : z 0 = .slice B t k := hd 0 (by decide)
      obtain ⟨A', c', e12, r12⟩ : GRdV 1 [.complex .f64 (fi x) (fi yy)] (z 12) w2 := hd 12 (by decide)
      rw [e0, e12]
      clear hd e0 e12 C1 C2 M1 M2 Q1
      have o1 := O1.out.below hw2
      have hb2 := HBEL.out.trans (hw2.mono hsr)
      have hs2 := hb2.size
      have hl1 := r12.len
      go_wp2_with (at_builtin; refine wpList_append_rdv _ rfl (.tmp 37) (.tmp 49) _ rfl W.heap.size 28 i1' (.complex .f64 0 0) 16 Try.underlying24 hi1 hz1 hz1' hz1'' rfl B t k (cvs (zs.take t)) rfl o1 _ _ _ _ rfl (by omega) r12 (by simp [Value.oneCell']) (by unfold maxLen; omega) (by omega) (by omega) (by omega) ?_)
      intro B1 l1 w4 o1' hb4 hsz4 hk4 hob4
      rw [HZ.out] at o1'
      have HO := Lib.hid (And.intro o1' (hb2.trans hb4))
      clear o1 o1' hb2 hb4 hk4 hob4 r12 HZ O1 HBEL hw2
      go_wp2_with fail
      go_roundw
      case rel => exact ⟨t + 1, B1, l1, by omega, by go_num, rfl, HO.out⟩
      case measure => simp [intOf]; omega
    · obtain rfl : t = n0 := by omega
      have e1 : zs.take t = zs := List.take_of_length_le (by omega)
      rw [e1] at o1
      have hr := o1.rd
      have hM := fun (w : World) (h : Below wr.heap.size wr w) => nearest_any w (hr.below h) (rfl : mk (fi cc) = _) (rfl : mk (fi dd) = _)
      rw [HN.out] at hM
      have ef : fitN t = 0 := fit_ok (by omega) (by omega)
      rw [ef] at hM
      have HF : ∀ j (hj : j < t) w', Calls Try.prog 20 #[.complex .f64 (gz zs j).1 (gz zs j).2, .complex .f64 (fi cc) (fi dd)] w' (FIV (dist xs ys c d j) w') := fun j hj w' =>
        (far_any w' rfl rfl rfl rfl).mono (by rintro e w4 ⟨u, rfl, lu, eu, bu⟩; exact ⟨u, rfl, by rw [eu]; exact hfz j hj, bu⟩)
      have HBEL := Lib.hid hbel
      clear e1 ef o1 hfz HN HZT hbel rd0 rd1 l0 l1
      go_upto_region 9 with (first
        | (go_at_call 17; (with_reducible refine (N1 _).mono ?_); rintro e w1 ⟨rfl, rfl⟩)
        | (go_at_call 17; (with_reducible refine (N2 _).mono ?_); rintro e w1 ⟨rfl, rfl⟩)
        | (go_at_call 16; (with_reducible refine (P1 _).mono ?_); rintro e w1 ⟨rfl, rfl⟩))
      have hM2 := hM wr (Below.refl _ _)
      clear N1 N2 P1 hM
      go_upto_region 10 with (go_at_call 26; refine hM2.mono ?_; rintro e w1 ⟨rfl, bw1⟩)
      have hr1 := hr.below bw1
      have HB1 := Lib.hid (HBEL.out.trans (bw1.mono HBEL.out.size))
      have b1 : ¬ (b : Int) < 0 := by omega
      have b2 : decide ((t : Int) ≤ (b : Int)) = false := by simp; omega
      clear hM2 hr bw1 HBEL
      go_wp2_with fail
      go_loopw [14] (fun i wr => ∃ (j : Nat), j ≤ t ∧ i = .int .i64 (j : Int) ∧ Below w1.heap.size w1 wr) (fun i _ => t - (intOf i).toNat)
      case atStart => exact ⟨0, Nat.zero_le _, rfl, Below.refl _ _⟩
      case round =>
        obtain ⟨j, hj, rfl, hbel⟩ := hrel
        have hsr := hbel.size
        by_cases hlt : j < t
        · obtain ⟨ad, rfl, hab, hac⟩ := (hr1.below hbel).form (by omega)
          have q1 := hac j _ (by unfold cvs; rw [List.getElem?_map, hgz j hlt]; rfl)
          have q2 := hac b _ (by unfold cvs; rw [List.getElem?_map, hgz b hbn]; rfl)
          have C1 : ∀ w', Below wr.heap.size wr w' → w'.cell? (ad.add j) = some (.complex .f64 (gz zs j).1 (gz zs j).2) := fun w' h => (h.cell (p := ad.add j) (adlt hab j)).trans q1
          have C2 : ∀ w', Below wr.heap.size wr w' → w'.cell? (ad.add b) = some (.complex .f64 (gz zs b).1 (gz zs b).2) := fun w' h => (h.cell (p := ad.add b) (adlt hab b)).trans q2
          have D1 := HF j hlt
          have D2 := HF b hbn
          have k1 := hm2 j hlt
          have k2 := hm3 j
          generalize (gz zs j).1 = p1 at C1 D1
          generalize (gz zs j).2 = p2 at C1 D1
          generalize (gz zs b).1 = q3 at C2 D2
          generalize (gz zs b).2 = q4 at C2 D2
          generalize dist xs ys c d j = dj at D1 k1 k2
          generalize dist xs ys c d b = db at D2 k1 k2
          have K1 := Lib.hid k1
          have K2 := Lib.hid k2
          have a1 : (j : Int) < (t : Int) := by omega
          have a0 : (0 : Int) ≤ (j : Int) := by omega
          have a2 : (b : Int) < (t : Int) := by omega
          have a3 : (0 : Int) ≤ (b : Int) := by omega
          have HBEL := Lib.hid hbel
          have i1 : IntKind.i64.wrap ((j : Int) + 1) = (j : Int) + 1 := IntWalk.i64_in _ (by omega)
          clear hac q1 q2 hbel HF hm2 hm3 hgz k1 k2
          by_cases hjb : j < b
          · have t5 : (j : Int) < (b : Int) := by omega
            go_upto_region 15 with (fail)
            (refine region_told _ (by kernel_rfl) (by kernel_rfl) (by simp only [putAll, Act.put, List.setIfInBounds_toArray, List.set_cons_zero, List.set_cons_succ, Nat.reduceAdd]; rfl) ?_)
            repeat (refine told_step (fun v _ => v = _) (Stays.eq _) (by intro y w' hw' hd; simp only [depsOf, updG, Region.binds, Nat.reduceAdd, Nat.reduceEqDiff, if_false, if_true, and_true, true_and, forall_const, Array.toList, GTrue] at hd; (try go_split_ands); unfold toldAt; go_simp; exact ⟨Below.refl _ _, rfl⟩) ?_)
            (refine told_step (fun v _ => FV dj v) (stays_FV _) (by intro y w' hw' hd; simp only [depsOf, updG, Region.binds, Nat.reduceAdd, Nat.reduceEqDiff, if_false, if_true, and_true, true_and, forall_const, Array.toList, GTrue] at hd; (try go_split_ands); unfold toldAt; go_simp; refine ⟨Below.refl _ _, ?_⟩; exact (D1 w').mono (by rintro e w4 ⟨u, rfl, iu, bu⟩; exact ⟨_, rfl, bu, u, rfl, iu⟩)) ?_)
            repeat (refine told_step (fun v _ => v = _) (Stays.eq _) (by intro y w' hw' hd; simp only [depsOf, updG, Region.binds, Nat.reduceAdd, Nat.reduceEqDiff, if_false, if_true, and_true, true_and, forall_const, Array.toList, GTrue] at hd; (try go_split_ands); unfold toldAt; go_simp; exact ⟨Below.refl _ _, rfl⟩) ?_)
            (refine told_step (fun v _ => FV db v) (stays_FV _) (by intro y w' hw' hd; simp only [depsOf, updG, Region.binds, Nat.reduceAdd, Nat.reduceEqDiff, if_false, if_true, and_true, true_and, forall_const, Array.toList, GTrue] at hd; (try go_split_ands); unfold toldAt; go_simp; refine ⟨Below.refl _ _, ?_⟩; exact (D2 w').mono (by rintro e w4 ⟨u, rfl, iu, bu⟩; exact ⟨_, rfl, bu, u, rfl, iu⟩)) ?_)
            (refine told_step (fun v _ => v = .bool false) (Stays.eq _) (by intro y w' hw' hd; simp only [depsOf, updG, Region.binds, Nat.reduceAdd, Nat.reduceEqDiff, if_false, if_true, and_true, true_and, forall_const, Array.toList, GTrue] at hd; obtain ⟨⟨u, hu, iu⟩, v, hv, iv⟩ := hd; have ho := iu.nlt iv K1.out; clear iu iv; unfold toldAt; go_simp; exact Below.refl _ _) ?_)
            repeat (refine told_step (fun v _ => v = _) (Stays.eq _) (by intro y w' hw' hd; simp only [depsOf, updG, Region.binds, Nat.reduceAdd, Nat.reduceEqDiff, if_false, if_true, and_true, true_and, forall_const, Array.toList, GTrue] at hd; (try go_split_ands); unfold toldAt; go_simp; exact ⟨Below.refl _ _, rfl⟩) ?_)
            (refine told_step (fun v _ => FV dj v) (stays_FV _) (by intro y w' hw' hd; simp only [depsOf, updG, Region.binds, Nat.reduceAdd, Nat.reduceEqDiff, if_false, if_true, and_true, true_and, forall_const, Array.toList, GTrue] at hd; (try go_split_ands); unfold toldAt; go_simp; refine ⟨Below.refl _ _, ?_⟩; exact (D1 w').mono (by rintro e w4 ⟨u, rfl, iu, bu⟩; exact ⟨_, rfl, bu, u, rfl, iu⟩)) ?_)
            repeat (refine told_step (fun v _ => v = _) (Stays.eq _) (by intro y w' hw' hd; simp only [depsOf, updG, Region.binds, Nat.reduceAdd, Nat.reduceEqDiff, if_false, if_true, and_true, true_and, forall_const, Array.toList, GTrue] at hd; (try go_split_ands); unfold toldAt; go_simp; exact ⟨Below.refl _ _, rfl⟩) ?_)
            (refine told_step (fun v _ => FV db v) (stays_FV _) (by intro y w' hw' hd; simp only [depsOf, updG, Region.binds, Nat.reduceAdd, Nat.reduceEqDiff, if_false, if_true, and_true, true_and, forall_const, Array.toList, GTrue] at hd; (try go_split_ands); unfold toldAt; go_simp; refine ⟨Below.refl _ _, ?_⟩; exact (D2 w').mono (by rintro e w4 ⟨u, rfl, iu, bu⟩; exact ⟨_, rfl, bu, u, rfl, iu⟩)) ?_)
            (refine told_step (fun v _ => v = .bool false) (Stays.eq _) (by intro y w' hw' hd; simp only [depsOf, updG, Region.binds, Nat.reduceAdd, Nat.reduceEqDiff, if_false, if_true, and_true, true_and, forall_const, Array.toList, GTrue] at hd; (try go_split_ands); have h1 : FV dj (y 23) := by { assumption }; have h2 : FV db (y 29) := by { assumption }; obtain ⟨u, hu, iu⟩ := h1; obtain ⟨v, hv, iv⟩ := h2; have ho := iu.nequ iv (by have := K2.out hjb; omega); clear iu iv; unfold toldAt; go_simp; exact Below.refl _ _) ?_)
            repeat (refine told_step (fun v _ => v = _) (Stays.eq _) (by intro y w' hw' hd; simp only [depsOf, updG, Region.binds, Nat.reduceAdd, Nat.reduceEqDiff, if_false, if_true, and_true, true_and, forall_const, Array.toList, GTrue] at hd; (try go_split_ands); unfold toldAt; go_simp; exact ⟨Below.refl _ _, rfl⟩) ?_)
            (refine told_nil ?_; intro z w' hw' hd)
            have H32 : z 32 = .bool false := hd 32 (by decide)
            clear hd C1 C2 D1 D2 K1 K2
            rw [H32]
            have HW := Lib.hid (HBEL.out.trans (hw'.mono hsr))
            clear hw' H32
            go_wp2_with fail
            go_roundw
            case rel => exact ⟨j + 1, by omega, by go_num, HW.out⟩
            case measure => simp [intOf]; omega
          · have t5 : ¬ (j : Int) < (b : Int) := by omega
            go_upto_region 15 with (fail)
            (refine region_told _ (by kernel_rfl) (by kernel_rfl) (by simp only [putAll, Act.put, List.setIfInBounds_toArray, List.set_cons_zero, List.set_cons_succ, Nat.reduceAdd]; rfl) ?_)
            repeat (refine told_step (fun v _ => v = _) (Stays.eq _) (by intro y w' hw' hd; simp only [depsOf, updG, Region.binds, Nat.reduceAdd, Nat.reduceEqDiff, if_false, if_true, and_true, true_and, forall_const, Array.toList, GTrue] at hd; (try go_split_ands); unfold toldAt; go_simp; exact ⟨Below.refl _ _, rfl⟩) ?_)
            (refine told_step (fun v _ => FV dj v) (stays_FV _) (by intro y w' hw' hd; simp only [depsOf, updG, Region.binds, Nat.reduceAdd, Nat.reduceEqDiff, if_false, if_true, and_true, true_and, forall_const, Array.toList, GTrue] at hd; (try go_split_ands); unfold toldAt; go_simp; refine ⟨Below.refl _ _, ?_⟩; exact (D1 w').mono (by rintro e w4 ⟨u, rfl, iu, bu⟩; exact ⟨_, rfl, bu, u, rfl, iu⟩)) ?_)
            repeat (refine told_step (fun v _ => v = _) (Stays.eq _) (by intro y w' hw' hd; simp only [depsOf, updG, Region.binds, Nat.reduceAdd, Nat.reduceEqDiff, if_false, if_true, and_true, true_and, forall_const, Array.toList, GTrue] at hd; (try go_split_ands); unfold toldAt; go_simp; exact ⟨Below.refl _ _, rfl⟩) ?_)
            (refine told_step (fun v _ => FV db v) (stays_FV _) (by intro y w' hw' hd; simp only [depsOf, updG, Region.binds, Nat.reduceAdd, Nat.reduceEqDiff, if_false, if_true, and_true, true_and, forall_const, Array.toList, GTrue] at hd; (try go_split_ands); unfold toldAt; go_simp; refine ⟨Below.refl _ _, ?_⟩; exact (D2 w').mono (by rintro e w4 ⟨u, rfl, iu, bu⟩; exact ⟨_, rfl, bu, u, rfl, iu⟩)) ?_)
            (refine told_step (fun v _ => v = .bool false) (Stays.eq _) (by intro y w' hw' hd; simp only [depsOf, updG, Region.binds, Nat.reduceAdd, Nat.reduceEqDiff, if_false, if_true, and_true, true_and, forall_const, Array.toList, GTrue] at hd; obtain ⟨⟨u, hu, iu⟩, v, hv, iv⟩ := hd; have ho := iu.nlt iv K1.out; clear iu iv; unfold toldAt; go_simp; exact Below.refl _ _) ?_)
            repeat (first | (refine told_step (fun v _ => v = _) (Stays.eq _) (by intro y w' hw' hd; simp only [depsOf, updG, Region.binds, Nat.reduceAdd, Nat.reduceEqDiff, if_false, if_true, and_true, true_and, forall_const, Array.toList, GTrue] at hd; (try go_split_ands); unfold toldAt; go_simp; exact ⟨Below.refl _ _, rfl⟩) ?_) | (refine told_step (fun v _ => v = undef) (Stays.eq _) (by intro y w' hw' hd; simp only [depsOf, updG, Region.binds, Nat.reduceAdd, Nat.reduceEqDiff, if_false, if_true, and_true, true_and, forall_const, Array.toList, GTrue] at hd; (try go_split_ands); unfold toldAt; go_simp) ?_))
            (refine told_nil ?_; intro z w' hw' hd)
            have H32 : z 32 = .bool false := hd 32 (by decide)
            clear hd C1 C2 D1 D2 K1 K2
            rw [H32]
            have HW := Lib.hid (HBEL.out.trans (hw'.mono hsr))
            clear hw' H32
            go_wp2_with fail
            go_roundw
            case rel => exact ⟨j + 1, by omega, by go_num, HW.out⟩
            case measure => simp [intOf]; omega
        · obtain rfl : j = t := by omega
          have HB2 := Lib.hid (HB1.out.trans (hbel.mono HB1.out.size))
          clear hr1 HF hm2 hm3 hgz hbel
          go_wp2_with (go_at_call 9; refine (palive_any _).mono ?_; rintro e w5 ⟨rfl, b5⟩)
          go_ret
          exact ⟨rfl, HB2.out.trans (b5.mono HB2.out.size)⟩
end Go.Proofs.Ytlagbacljobbcaa
