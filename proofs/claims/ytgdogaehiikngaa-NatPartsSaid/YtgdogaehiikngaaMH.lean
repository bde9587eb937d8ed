/- Texts of this claim, joined: Rj, Rk, Rl. -/
import Derived.Test.YtgdogaehiikngaaMG

/- The reference's long division, digit by digit: the walk. -/
namespace Go.Proofs.Ytgdogaehiikngaa
set_option linter.unusedSimpArgs false
set_option linter.unusedVariables false
open Go.RowKit Go.Proofs.YtgdogaehiikngaaW.PrintWords Go.Proofs.YtgdogaehiikngaaW.PrintLast Go.Proofs.YtgdogaehiikngaaW.PrintMore

def cI (xs : List Nat) : List Int := xs.map fun (x : Nat) => (x : Int)
theorem cI_length (xs : List Nat) : (cI xs).length = xs.length := by simp [cI]
theorem cI_toN {l : List Int} (h : ∀ x ∈ l, 0 ≤ x) : cI (toN l) = l := by
  simp only [cI, toN, List.map_map]
  conv => rhs; rw [← List.map_id l]
  refine List.map_congr_left fun x hx => ?_
  have := h x hx
  simp only [Function.comp, id]; omega
theorem toN_cI (xs : List Nat) : toN (cI xs) = xs := by simp [cI, toN, Function.comp_def]
theorem C_of_Rd {k : IntKind} {w : World} {A : Option Addr} {n c : Nat} {xs : List Nat} (h : Rd k w A n c xs) : Kd.C (Kd.int k) w A (cI xs).length (cI xs) := by
  refine Kd.C_of_reads (d := (0 : Int)) ⟨rfl, by rw [cI_length, h.len]; exact h.max, fun hn => ?_⟩
  rw [cI_length, h.len] at hn
  obtain ⟨ad, e, _, hc⟩ := h.form hn
  refine ⟨ad, e, fun j hj => ?_⟩
  rw [cI_length, h.len] at hj
  rw [hc j hj]
  have : (cI xs).getD j 0 = ((gd xs j : Nat) : Int) := by
    rw [List.getD_eq_getElem?_getD]; unfold cI
    rw [List.getElem?_map, gd_get (by rw [h.len]; exact hj)]; rfl
  rw [this]
theorem Own.of_R {k : IntKind} {e : Nat} {w : World} {base : Nat} {ok : Nat → Prop} {v : Value} {l : List Int} (h : Kd.R (Kd.int k) e w base ok v l) (h0 : ∀ x ∈ l, 0 ≤ x) : ∃ A c, v = .slice A l.length c ∧ Own k e w base A l.length c (toN l) := by
  obtain ⟨A, c, rfl⟩ := Kd.R_slice h
  refine ⟨A, c, rfl, ?_⟩
  have ho := Kd.own_of_R h
  have e1 : encs (Value.int k) l = vs k (toN l) := by
    unfold encs vs
    rw [show toN l = l.map Int.toNat from rfl, List.map_map]
    refine List.map_congr_left fun x hx => ?_
    have := h0 x hx
    simp only [Function.comp]; congr 1; omega
  rw [e1] at ho
  exact ho
/-- a new row of whole numbers is returned -/
def RetI (xs : List Nat) (w : World) (e : Ending) (w' : World) : Prop := ∃ A c, e = .returned (.slice A xs.length c) ∧ Own .i64 3 w' w.heap.size A xs.length c xs ∧ Below w.heap.size w w'
theorem retI_of {l : List Int} {w w' : World} {e : Ending} (h0 : ∀ x ∈ l, 0 ≤ x) (h : ∃ v0_ : Value, e = .returned (v0_) ∧ Kd.R (Kd.int .i64) 3 w' w.heap.size (fun _ => True) v0_ l ∧ Below w.heap.size w w') : RetI (toN l) w e w' := by
  obtain ⟨v, rfl, hr, hb⟩ := h
  obtain ⟨A, c, rfl, ho⟩ := Own.of_R hr h0
  refine ⟨A, c, by rw [toN_length], ?_, hb⟩
  rw [toN_length]; exact ho
theorem BinL.pos {l : List Int} (h : BinL l) : ∀ x ∈ l, 0 ≤ x := fun x hx => by have := h x hx; omega
/-- a number's binary digits -/
def dN (n : Nat) : List Nat := toN (dg n)
theorem dN_length (n : Nat) : (dN n).length = blen n := by unfold dN; rw [toN_length, dg_length]
theorem dN_bin (n : Nat) : Bin (dN n) := ((dg_bin n).binI (Nat.le_refl _)).bin
theorem bvN_dN (n : Nat) : bvN (dN n) = n := bz_dg n
theorem cI_dN (n : Nat) : cI (dN n) = dg n := cI_toN (dg_bin n).pos
theorem Bin.toL {xs : List Nat} (h : Bin xs) : BinL (cI xs) := by
  intro x hx
  simp only [cI, List.mem_map] at hx
  obtain ⟨y, hy, rfl⟩ := hx
  have := h y hy; omega
theorem bz_cI (xs : List Nat) : bz (cI xs) = bvN xs := by unfold bz; rw [toN_cI]

theorem digits_any (w : World) {A : Option Addr} {n c x : Nat} (hx : NA w A n c x) (hn : n ≤ 262144) : Calls Try.prog 41 #[.slice A n c] w (RetI (dN x) w) := by
  obtain ⟨xs, h, b, rfl⟩ := hx
  have hc := C_of_Rd h
  have hl : (cI xs).length = n := by rw [cI_length, h.len]
  have ho : okN 262144 (cI xs) := by
    refine ⟨by omega, fun y hy => ?_⟩
    simp only [cI, List.mem_map] at hy
    obtain ⟨z, hz, rfl⟩ := hy
    have := b z hz; omega
  have hp := digits_pure ho 1000000000 (by omega)
  have := Cr.clepsydraref01_digits.calls 1000000000 A c (cI xs) _ w hc (by rw [hl]; exact h.cap) hp
  rw [hl] at this
  refine this.mono fun e w' h => ?_
  have h2 := retI_of (dg_bin _).pos h
  rw [show nI (cI xs) = nv xs by unfold nI; rw [toN_cI]] at h2
  exact h2
theorem moved0_any (w : World) {A : Option Addr} {n c : Nat} {xs : List Nat} (h : Rd .i64 w A n c xs) (hb : Bin xs) (hn : n ≤ 1073741824) : Calls Try.prog 43 #[.slice A n c, .int .i64 0] w (RetI xs w) := by
  have hc := C_of_Rd h
  have hl : (cI xs).length = n := by rw [cI_length, h.len]
  have hp : Cr.clepsydraref01_moved.f 1 (cI xs) 0 = some (cI xs) := by
    unfold Cr.clepsydraref01_moved.f
    simp only [Cr.clepsydraref01_moved.l0]
    rw [if_neg (by omega), if_pos (by simp; omega)]; rfl
  have := Cr.clepsydraref01_moved.calls 1 A c (cI xs) 0 _ w hc (by rw [hl]; exact h.cap) hp
  rw [hl] at this
  refine this.mono fun e w' h => ?_
  have h2 := retI_of hb.toL.pos h
  rwa [toN_cI] at h2
theorem rtake_any (w : World) {A B : Option Addr} {n c m d : Nat} {xs ys : List Nat} (h : Rd .i64 w A n c xs) (h' : Rd .i64 w B m d ys) (hb : Bin xs) (hb' : Bin ys) (hn : n ≤ 1000000) (hle : bvN ys ≤ bvN xs) : Calls Try.prog 52 #[.slice A n c, .slice B m d] w (RetI (dN (bvN xs - bvN ys)) w) := by
  have hc := C_of_Rd h
  have hc' := C_of_Rd h'
  have hl : (cI xs).length = n := by rw [cI_length, h.len]
  have hl' : (cI ys).length = m := by rw [cI_length, h'.len]
  have hp := take_pure hb.toL hb'.toL (by omega) (by rw [bz_cI, bz_cI]; exact hle) 1000000000 (by omega)
  have := Cr.clepsydraref01_take.calls 1000000000 A c (cI xs) B d (cI ys) _ w hc (by rw [hl]; exact h.cap) hc' (by rw [hl']; exact h'.cap) hp
  rw [hl, hl'] at this
  refine this.mono fun e w' h => ?_
  have h2 := retI_of (dg_bin _).pos h
  rwa [bz_cI, bz_cI] at h2
theorem cut_dN (w : World) {A : Option Addr} {n c : Nat} {xs : List Nat} (hx : Rd .i64 w A n c xs) (hb : Bin xs) (hn : n ≤ 1073741824) :
    Calls Try.prog 50 #[.slice A n c] w fun e w' => ∃ m, e = .returned (.slice A m c) ∧ m ≤ n ∧ m = blen (bvN xs) ∧ Rd .i64 w A m c (dN (bvN xs)) ∧ w = w' := by
  refine (cut_any w hx hn).mono ?_
  rintro e w' ⟨m, rfl, ⟨h1, h2, h3⟩, rfl⟩
  rw [hx.len] at h1
  have hr := hx.take h1
  have hd : dN (bvN xs) = xs.take m := by
    have hL : BinL (cI (xs.take m)) := (hb.take m).toL
    have := dg_bz hL (fun x hx' => by
      rcases h3 with h0 | h0
      · subst h0; simp [cI] at hx'
      · unfold cI at hx'
        rw [List.getLast?_map, List.getLast?_eq_getElem?, List.length_take, hx.len, Nat.min_eq_left h1] at hx'
        rcases Nat.eq_zero_or_pos m with hm | hm
        · subst hm; simp at hx'
        · rw [List.getElem?_take, if_pos (by omega), gd_get (by rw [hx.len]; omega)] at hx'
          simp only [Option.map_some, Option.some.injEq] at hx'
          omega)
    rw [bz_cI, h2] at this
    unfold dN
    rw [this, toN_cI]
  refine ⟨m, rfl, h1, ?_, by rw [hd]; exact hr, rfl⟩
  rw [← dN_length, hd, List.length_take, hx.len]; omega

/-- the state of the division: digits i and above are done -/
structure RDiv (x y i r : Nat) (qs : List Nat) : Prop where
  val : x / 2 ^ i = bvN (qs.drop i) * y + r
  low : r < y
  bin : Bin qs
theorem RDiv.start {x y : Nat} (hy : 0 < y) : RDiv x y (blen x) 0 (dN x) :=
  ⟨by rw [List.drop_eq_nil_of_le (by rw [dN_length]; exact Nat.le_refl _), Nat.div_eq_of_lt (lt_blen x)]; simp [bvN], hy, dN_bin x⟩
theorem Bin.set {xs : List Nat} (h : Bin xs) (j : Nat) {y : Nat} (hy : y ≤ 1) : Bin (xs.set j y) := fun x hx => by
  rcases List.mem_or_eq_of_mem_set hx with hx | rfl
  · exact h x hx
  · exact hy
theorem RDiv.next {x y i r r' d : Nat} {qs : List Nat} (h : RDiv x y (i + 1) r qs) (hi : i < qs.length) (hd : d ≤ 1) (hr : 2 * r + x / 2 ^ i % 2 = d * y + r') (hlt : r' < y) : RDiv x y i r' (qs.set i d) := by
  refine ⟨?_, hlt, h.bin.set _ hd⟩
  rw [div_next x i, h.val]
  have e : (qs.set i d).drop i = d :: qs.drop (i + 1) := by
    rw [List.drop_eq_getElem_cons (by rw [List.length_set]; exact hi), List.getElem_set_self, List.drop_set_of_lt (by omega)]
  rw [e, bvN, Nat.add_mul, Nat.mul_assoc]; omega
theorem RDiv.done {x y r : Nat} {qs : List Nat} (h : RDiv x y 0 r qs) : bvN qs = x / y ∧ r = x % y := by
  have hv := h.val
  have hl := h.low
  simp only [Nat.pow_zero, Nat.div_one, List.drop_zero] at hv
  have hy : 0 < y := by omega
  constructor
  · rw [hv, Nat.add_comm, Nat.add_mul_div_right _ _ hy, Nat.div_eq_of_lt hl, Nat.zero_add]
  · rw [hv, Nat.add_comm, Nat.add_mul_mod_self_right, Nat.mod_eq_of_lt hl]
end Go.Proofs.Ytgdogaehiikngaa

/- The reference's long division: the walk. -/
namespace Go.Proofs.Ytgdogaehiikngaa
set_option linter.unusedSimpArgs false
set_option linter.unusedVariables false
open Go.RowKit

theorem i64_info : (Try.prog.info? 3).map (fun i => (i.zero, i.size, i.bytes)) = some (some (.int .i64 0), 1, 8) := by kernel_rfl
/-- what holds of memory in a round -/
structure RDivW (w0 wr : World) (lx ly cx cy gq cq rn rc : Nat) (AX AY AR : Option Addr) (x y r : Nat) (qs : List Nat) : Prop where
  rx : Rd .i64 wr AX lx cx (dN x)
  ry : Rd .i64 wr AY ly cy (dN y)
  rr : Rd .i64 wr AR rn rc (dN r)
  q : Own .i64 3 wr w0.heap.size (some ⟨gq, 0, none⟩) lx cq qs
  nx : ∀ ad, AX = some ad → ad.block ≠ gq
  ny : ∀ ad, AY = some ad → ad.block ≠ gq
  nr : ∀ ad, AR = some ad → ad.block ≠ gq
  bel : Below w0.heap.size w0 wr
theorem RDivW.below {w0 wr w1 : World} {lx ly cx cy gq cq rn rc rn' rc' : Nat} {AX AY AR AR' : Option Addr} {x y r r' : Nat} {qs : List Nat} (h : RDivW w0 wr lx ly cx cy gq cq rn rc AX AY AR x y r qs) (hb : Below wr.heap.size wr w1) (hr : Rd .i64 w1 AR' rn' rc' (dN r')) (hn : ∀ ad, AR' = some ad → ad.block ≠ gq) : RDivW w0 w1 lx ly cx cy gq cq rn' rc' AX AY AR' x y r' qs :=
  ⟨h.rx.below hb, h.ry.below hb, hr, h.q.below hb, h.nx, h.ny, hn, h.bel.trans (hb.mono h.bel.size)⟩
theorem RDivW.store {w0 wr : World} {lx ly cx cy gq cq rn rc : Nat} {AX AY AR : Option Addr} {x y r : Nat} {qs : List Nat} (h : RDivW w0 wr lx ly cx cy gq cq rn rc AX AY AR x y r qs) (j d : Nat) (hg : w0.heap.size ≤ gq) : RDivW w0 (wr.setCell ⟨gq, j, none⟩ (.int .i64 (d : Int))) lx ly cx cy gq cq rn rc AX AY AR x y r (qs.set j d) :=
  ⟨h.rx.grown (grown_set (grown_refl _ _) _ _) h.nx, h.ry.grown (grown_set (grown_refl _ _) _ _) h.ny, h.rr.grown (grown_set (grown_refl _ _) _ _) h.nr, h.q.store j d, h.nx, h.ny, h.nr, h.bel.setCell (p := ⟨gq, j, none⟩) hg _⟩

set_option maxHeartbeats 4000000 in
theorem rdiv_zero (w : World) {A B : Option Addr} {n c m d x : Nat} (hx : NA w A n c x) (hy : NA w B m d 0) (hn : n ≤ 4096) (hm : m ≤ 4096) :
    Calls Try.prog 19 #[.slice A n c, .slice B m d] w (RetNNE 0 0 11 w) := by
  have HX := Lib.hid hx
  have HY := Lib.hid hy
  have hb0 : (dN 0).length = 0 := by rw [dN_length, blen_zero]
  clear hx hy
  go_enter Try.func19, Try.ntmps19
  go_wp2_with fail
  refine (digits_any w HX.out (by omega)).mono ?_
  rintro e w1 ⟨A1, c1, rfl, ho1, hb1⟩
  go_wp2_with fail
  refine (digits_any w1 (HY.out.below hb1) (by omega)).mono ?_
  rintro e w2 ⟨A2, c2, rfl, ho2, hb2⟩
  rw [hb0]
  have HB := Lib.hid (hb1.trans (hb2.mono hb1.size))
  have E := Lib.hid ln_zero
  have E2 := Lib.hid limbs_zero
  clear ho1 hb1 ho2 hb2 hb0
  go_wp2_with fail
  refine bodyPost_ret (v := .tuple #[.slice none 0 0, .slice none 0 0, .int .i64 11]) (by simp [results, Try.results19, go_sem]) rfl ⟨none, 0, none, 0, ?_, ?_, ?_, HB.out, Apart.none _⟩
  · rw [E.out]
  · rw [E.out, E2.out]; exact Own.nil _ _ _ _
  · rw [E.out, E2.out]; exact Own.nil _ _ _ _

set_option maxHeartbeats 1000000 in
set_option maxRecDepth 100000 in
theorem rdiv_any (w : World) {A B : Option Addr} {n c m d x y : Nat} (hx : NA w A n c x) (hy : NA w B m d y) (hn : n ≤ 4096) (hm : m ≤ 4096) (hy0 : 0 < y) (hx0 : 0 < x) :
    Calls Try.prog 19 #[.slice A n c, .slice B m d] w (RetNNE (x / y) (x % y) 0 w) := by
  obtain ⟨i0, hi0, hz0, hz1, hz2⟩ := info_parts i64_info
  have hbl : ∀ {z k : Nat}, ln z ≤ k → blen z ≤ 64 * k := fun {z k} h => by have := dgl h; rwa [dg_length] at this
  have hlnx : blen x ≤ 262144 := by
    obtain ⟨xs, h1, h2, h3⟩ := hx
    have := hbl (ln_nv h2); have := h1.len; rw [h3] at *; omega
  have hlny : blen y ≤ 262144 := by
    obtain ⟨xs, h1, h2, h3⟩ := hy
    have := hbl (ln_nv h2); have := h1.len; rw [h3] at *; omega
  obtain ⟨lx, hlx⟩ : ∃ l, (dN x).length = l := ⟨_, rfl⟩
  obtain ⟨ly, hly⟩ : ∃ l, (dN y).length = l := ⟨_, rfl⟩
  have hlxp : 0 < lx := by rw [← hlx, dN_length, blen_pos (by omega)]; omega
  have hlyp : 0 < ly := by rw [← hly, dN_length, blen_pos (by omega)]; omega
  have hlxb : lx ≤ 262144 := by rw [← hlx, dN_length]; exact hlnx
  have hlyb : ly ≤ 262144 := by rw [← hly, dN_length]; exact hlny
  have hst := RDiv.start (x := x) hy0
  rw [← dN_length, hlx] at hst
  have HST := Lib.hid hst
  have HX := Lib.hid hx
  have HY := Lib.hid hy
  have HLX := Lib.hid hlx
  have HLY := Lib.hid hly
  have hly0 : ((ly : Int) == 0) = false := by simp; omega
  clear hx hy hlx hly hst hbl hlnx hlny
  go_enter Try.func19, Try.ntmps19
  go_wp2_with fail
  refine (digits_any w HX.out (by omega)).mono ?_
  rintro e w1 ⟨A1, c1, rfl, ho1, hb1⟩
  rw [HLX.out] at ho1 ⊢
  go_wp2_with fail
  refine (digits_any w1 (HY.out.below hb1) (by omega)).mono ?_
  rintro e w2 ⟨A2, c2, rfl, ho2, hb2⟩
  rw [HLY.out] at ho2 ⊢
  obtain ⟨g1, rfl, hg11, hg12⟩ := ho1.blk (by omega)
  obtain ⟨g2, rfl, hg21, hg22⟩ := ho2.blk (by omega)
  have hW1 := hb1.size
  have hW2 := hb2.size
  have HB2 := Lib.hid (hb1.trans (hb2.mono hb1.size))
  have HO1 := Lib.hid (ho1.below hb2)
  have HO2 := Lib.hid ho2
  clear ho1 hb1 ho2 hb2
  have HE := Lib.hid ((Own.of_bk (k := .i64) (xs := []) (base := w2.heap.size) (Bk.new w2 3 (va .i64 [])) (Nat.le_refl _) rfl (by simp)) : Own .i64 3 (w2.alloc (.cells #[] 3)) w2.heap.size (some ⟨w2.heap.size, 0, none⟩) 0 0 [])
  have HR1 := Lib.hid (HO1.out.rd.alloc (.cells #[] 3))
  have hb9 : w2.heap.size ≤ (w2.alloc (.cells #[] 3)).heap.size := by simp
  have HB3 := Lib.hid (show Below w2.heap.size w2 (w2.alloc (.cells #[] 3)) from (Below.refl _ _).alloc (Nat.le_refl _) _)
  go_wp2_with (at_builtin; refine wpList_append_rd _ rfl (.tmp 20) (.tmp 21) _ rfl .i64 w2.heap.size 3 i0 (.int .i64 0) 8 Try.underlying49 hi0 hz0 hz1 hz2 rfl (some ⟨w2.heap.size, 0, none⟩) 0 0 [] rfl HE.out _ _ _ _ rfl HR1.out (by simp only [maxLen]; omega) (by omega) hb9 ?_)
  intro A3 c3 w3 ho3 hb3 hs3 _
  have hb3' : Below w2.heap.size w2 w3 := HB3.out.trans hb3
  have HO3 := Lib.hid ho3
  have HB4 := Lib.hid hb3'
  have hW3 := hb3'.size
  clear ho3 hb3 hb3' HE HR1 hb9 HB3
  go_wp2_with fail
  refine (moved0_any w3 HO3.out.rd (dN_bin x) (by omega)).mono ?_
  rintro e w4 ⟨A4, c4, rfl, ho4, hb4⟩
  rw [HLX.out] at ho4 ⊢
  obtain ⟨gq, rfl, hgq1, hgq2⟩ := ho4.blk (by omega)
  have hb24 : Below w2.heap.size w2 w4 := HB4.out.trans (hb4.mono hW3)
  have hW4 := hb4.size
  have h0 : dN 0 = [] := by unfold dN; rw [dg_zero]; rfl
  have HDW := Lib.hid (show RDivW w w4 lx ly c1 c2 gq c4 0 0 (some ⟨g1, 0, none⟩) (some ⟨g2, 0, none⟩) none x y 0 (dN x) from
    ⟨(HO1.out.below hb24).rd, (HO2.out.below hb24).rd, by rw [h0]; exact Rd.nil _ _ _ _, ho4.lower (by omega), (by intro ad e; have := Option.some.inj e; subst this; simp; omega), (by intro ad e; have := Option.some.inj e; subst this; simp; omega), (by intro ad e; cases e), HB2.out.trans (hb24.mono (by omega))⟩)
  clear ho4 hb4 hb24 h0
  go_wp2_with fail
  go_loopw [10, 11] (fun rv i wr => ∃ (k r rn rc : Nat) (AR : Option Addr) (qs : List Nat), k ≤ lx ∧ i = .int .i64 ((k : Int) - 1) ∧ rv = .slice AR rn rc ∧ RDivW w wr lx ly c1 c2 gq c4 rn rc (some ⟨g1, 0, none⟩) (some ⟨g2, 0, none⟩) AR x y r qs ∧ RDiv x y k r qs) (fun _ i _ => (intOf i + 1).toNat)
  case atStart => exact ⟨lx, 0, 0, 0, none, dN x, Nat.le_refl _, rfl, rfl, HDW.out, HST.out⟩
  case round =>
    obtain ⟨k, r, rn, rc, AR, qs, hk, rfl, rfl, hdw, hds⟩ := hrel
    have HD := Lib.hid hdw
    have HS := Lib.hid hds
    have hrn : rn = blen r := by rw [← hdw.rr.len, dN_length]
    have hrb : rn ≤ 262144 := by
      have hl : r < y := hds.low
      have h1 : blen r ≤ blen y := blen_le.2 (Nat.lt_trans hl (lt_blen y))
      have h2 := HLY.out
      rw [dN_length] at h2
      omega
    have hwr := hdw.bel.size
    clear hdw hds hrn
    by_cases hk0 : k = 0
    · subst hk0
      have HF := Lib.hid HS.out.done
      go_wp2_with fail
      refine (number_any wr HD.out.q.rd HS.out.bin (by omega)).mono ?_
      rintro e w5 ⟨A5, c5, rfl, ho5, hb5⟩
      go_wp2_with fail
      refine (number_any w5 (HD.out.rr.below hb5) (dN_bin r) (by omega)).mono ?_
      rintro e w6 ⟨A6, c6, rfl, ho6, hb6⟩
      have HO5 := Lib.hid ho5
      have HO6 := Lib.hid ho6
      have HB6 := Lib.hid hb6
      have HB5 := Lib.hid hb5
      have HAP := Lib.hid (Apart.of ho5 ho6)
      clear ho5 ho6 hb5 hb6
      go_wp2_with fail
      refine bodyPost_ret (v := .tuple #[.slice A5 (ln (bvN qs)) c5, .slice A6 (ln (bvN (dN r))) c6, .int .i64 0]) (by simp [results, Try.results19, go_sem]) rfl ⟨A5, c5, A6, c6, ?_, ?_, ?_, ?_, HAP.out⟩
      · rw [bvN_dN, HF.out.1, HF.out.2]
      · rw [← HF.out.1]; exact (HO5.out.below HB6.out).lower hwr
      · rw [← HF.out.2, ← bvN_dN r]; exact HO6.out.lower (Nat.le_trans hwr HB5.out.size)
      · exact HD.out.bel.trans ((HB5.out.trans (HB6.out.mono HB5.out.size)).mono hwr)
    · obtain ⟨j, rfl⟩ : ∃ j, k = j + 1 := ⟨k - 1, by omega⟩
      have ek : ((j + 1 : Nat) : Int) - 1 = (j : Int) := by omega
      rw [ek]
      obtain ⟨ad1, had1, _, hxc⟩ := HD.out.rx.form (by omega)
      have hxc1 := hxc j (by omega)
      obtain rfl := Option.some.inj had1
      rw [ad_plain] at hxc1
      have hdd := bvN_digit (dN_bin x) j
      rw [bvN_dN] at hdd
      obtain ⟨dd, hdd2⟩ : ∃ dd, gd (dN x) j = dd := ⟨_, rfl⟩
      rw [hdd2] at hxc1 hdd
      have hdd1 : dd ≤ 1 := by omega
      have HDD := Lib.hid hdd
      have HN1 := Lib.hid (Own.nil .i64 3 (wr.alloc (.cells #[.int .i64 (dd : Int)] 3)) wr.heap.size)
      have HN2 := Lib.hid ((Own.of_bk (k := .i64) (xs := [dd]) (base := 0) (Bk.new wr 3 (va .i64 [dd])) (by omega) rfl (by simp)).rd : Rd .i64 (wr.alloc (.cells #[.int .i64 (dd : Int)] 3)) (some ⟨wr.heap.size, 0, none⟩) 1 1 [dd])
      have hb9 : wr.heap.size ≤ (wr.alloc (.cells #[.int .i64 (dd : Int)] 3)).heap.size := by simp
      have HB9 := Lib.hid (show Below wr.heap.size wr (wr.alloc (.cells #[.int .i64 (dd : Int)] 3)) from (Below.refl _ _).alloc (Nat.le_refl _) _)
      clear hxc had1 hdd hdd2 ek hk0
      go_wp2_with (at_builtin; refine wpList_append_rd _ rfl (.tmp 31) (.tmp 36) _ rfl .i64 wr.heap.size 3 i0 (.int .i64 0) 8 Try.underlying49 hi0 hz0 hz1 hz2 rfl none 0 0 [] rfl HN1.out _ _ _ _ rfl HN2.out (by simp only [maxLen]; omega) (by omega) hb9 ?_)
      intro A5 c5 w5 ho5 hb5 hs5 _
      have hb5' : Below wr.heap.size wr w5 := HB9.out.trans hb5
      have HO5 := Lib.hid ho5
      have HB5 := Lib.hid hb5'
      have hW5 := hb5'.size
      have HR5 := Lib.hid (HD.out.rr.below hb5')
      clear ho5 hb5 hb5' hs5 HN1 HN2 hb9 HB9
      go_wp2_with (at_builtin; refine wpList_append_rd _ rfl (.tmp 38) (.tmp 39) _ rfl .i64 wr.heap.size 3 i0 (.int .i64 0) 8 Try.underlying49 hi0 hz0 hz1 hz2 rfl A5 1 c5 [dd] rfl HO5.out _ _ _ _ rfl HR5.out (by simp only [maxLen]; omega) (by omega) hW5 ?_)
      intro A6 c6 w6 ho6 hb6 hs6 _
      obtain ⟨g6, rfl, hg61, hg62⟩ := ho6.blk (by omega)
      obtain ⟨gq', hgq', hgq3, hgq4⟩ := HD.out.q.blk (by omega)
      have hgq5 : gq < wr.heap.size := by simp only [Option.some.injEq, Addr.mk.injEq, and_true] at hgq'; omega
      clear hgq' hgq3 hgq4
      have hb16 : Below wr.heap.size wr w6 := HB5.out.trans hb6
      have hbin6 : Bin ([dd] ++ dN r) := by
        intro z hz
        rcases List.mem_append.1 hz with hz | hz
        · rw [List.mem_singleton.1 hz]; exact hdd1
        · exact dN_bin r z hz
      have hbv6 : bvN (dd :: dN r) = dd + 2 * r := by simp [bvN, bvN_dN]
      have HC6 := Lib.hid (cut_dN w6 ho6.rd hbin6 (by omega))
      have HBV := Lib.hid hbv6
      have HB16 := Lib.hid hb16
      have hW6 := hb16.size
      clear ho6 hb6 hs6 hb16 hbin6 hbv6
      go_wp2_with fail
      refine HC6.out.mono ?_
      rintro e w' ⟨m6, rfl, hm6, -, hr6, hw'⟩
      obtain rfl : w6 = w' := hw'
      rw [HBV.out] at hr6
      have hdw6 := HD.out.below HB16.out hr6 (by intro ad e; have := Option.some.inj e; subst this; simp; omega)
      have hcell := hdw6.q.cellAt (j := j) (by omega)
      have hfr := hdw6.q.frozenAt j
      have hcapq := hdw6.q.rd.cap
      have hd7 := hdw6.store j 0 (by omega)
      simp only [Int.natCast_zero] at hd7
      have HD7 := Lib.hid hd7
      clear hd7
      have hql : j < qs.length := by rw [hdw6.q.len]; omega
      have hmb6 : m6 ≤ 1000000 := by omega
      clear hr6 hdw6 HC6
      by_cases hlt : dd + 2 * r < y
      · have hdec : decide (bvN (dN (dd + 2 * r)) < bvN (dN y)) = true := by rw [bvN_dN, bvN_dN]; simpa using hlt
        have HS7 := Lib.hid (HS.out.next hql (d := 0) (r' := dd + 2 * r) (by omega) (by rw [← HDD.out]; omega) hlt)
        have HL7 := Lib.hid (less_any _ HD7.out.rr HD7.out.ry (dN_bin _) (dN_bin _) (by omega) (by omega))
        clear hlt
        go_wp2_with fail
        refine HL7.out.mono ?_
        rintro e w' ⟨rfl, rfl⟩
        go_wp2_with fail
        refine ⟨⟨j, dd + 2 * r, m6, c6, some ⟨g6, 0, none⟩, qs.set j 0, by omega, rfl, rfl, HD7.out, HS7.out⟩, by simp [intOf]⟩
      · have hdec : decide (bvN (dN (dd + 2 * r)) < bvN (dN y)) = false := by rw [bvN_dN, bvN_dN]; simpa using hlt
        have HS7 := Lib.hid (HS.out.next hql (d := 1) (r' := dd + 2 * r - y) (by omega) (by rw [← HDD.out]; omega) (by have := HS.out.low; omega))
        have HL7 := Lib.hid (less_any _ HD7.out.rr HD7.out.ry (dN_bin _) (dN_bin _) (by omega) (by omega))
        have HT7 := Lib.hid (rtake_any _ HD7.out.rr HD7.out.ry (dN_bin _) (dN_bin _) hmb6 (by rw [bvN_dN, bvN_dN]; omega))
        clear hlt
        go_wp2_with fail
        refine HL7.out.mono ?_
        rintro e w' ⟨rfl, rfl⟩
        go_wp2_with fail
        refine HT7.out.mono ?_
        rintro e w8 ⟨A8, c8, rfl, ho8, hb8⟩
        rw [bvN_dN, bvN_dN] at ho8 ⊢
        have hdw8 := HD7.out.below hb8 ho8.rd (by
          intro ad e
          rcases ho8.ways with ⟨h1, _⟩ | ⟨g8, h1, h2, _⟩
          · rw [h1] at e; cases e
          · rw [h1] at e; have := Option.some.inj e; subst this; simp at h2; simp; omega)
        have hcell8 := hdw8.q.cellAt (j := j) (by omega)
        have hfr8 := hdw8.q.frozenAt j
        have hd9 := hdw8.store j 1 (by omega)
        rw [List.set_set] at hd9
        simp only [Int.natCast_one] at hd9
        have HD9 := Lib.hid hd9
        clear hd9
        clear ho8 hb8 hdw8 hcell hfr
        go_wp2_with fail
        refine ⟨⟨j, dd + 2 * r - y, _, c8, A8, qs.set j 1, by omega, rfl, rfl, HD9.out, HS7.out⟩, by simp [intOf]⟩
set_option maxHeartbeats 1000000 in
set_option maxRecDepth 100000 in
theorem rdiv_none (w : World) {A B : Option Addr} {n c m d y : Nat} (hx : NA w A n c 0) (hy : NA w B m d y) (hn : n ≤ 4096) (hm : m ≤ 4096) (hy0 : 0 < y) :
    Calls Try.prog 19 #[.slice A n c, .slice B m d] w (RetNNE 0 0 0 w) := by
  obtain ⟨i0, hi0, hz0, hz1, hz2⟩ := info_parts i64_info
  have hd0 : dN 0 = [] := by unfold dN; rw [dg_zero]; rfl
  obtain ⟨ly, hly⟩ : ∃ l, (dN y).length = l := ⟨_, rfl⟩
  have hlyp : 0 < ly := by rw [← hly, dN_length, blen_pos (by omega)]; omega
  have HX := Lib.hid hx
  have HY := Lib.hid hy
  have HLY := Lib.hid hly
  have H0 := Lib.hid hd0
  have hly0 : ((ly : Int) == 0) = false := by simp; omega
  clear hx hy hly hd0
  go_enter Try.func19, Try.ntmps19
  go_wp2_with fail
  refine (digits_any w HX.out (by omega)).mono ?_
  rintro e w1 ⟨A1, c1, rfl, ho1, hb1⟩
  rw [H0.out] at ho1 ⊢
  rw [List.length_nil] at ho1 ⊢
  go_wp2_with fail
  refine (digits_any w1 (HY.out.below hb1) (by omega)).mono ?_
  rintro e w2 ⟨A2, c2, rfl, ho2, hb2⟩
  rw [HLY.out] at ho2 ⊢
  have hW1 := hb1.size
  have hW2 := hb2.size
  have HB2 := Lib.hid (hb1.trans (hb2.mono hb1.size))
  have HO1 := Lib.hid (ho1.below hb2)
  clear ho1 hb1 ho2 hb2
  have HE := Lib.hid ((Own.of_bk (k := .i64) (xs := []) (base := w2.heap.size) (Bk.new w2 3 (va .i64 [])) (Nat.le_refl _) rfl (by simp)) : Own .i64 3 (w2.alloc (.cells #[] 3)) w2.heap.size (some ⟨w2.heap.size, 0, none⟩) 0 0 [])
  have HR1 := Lib.hid (HO1.out.rd.alloc (.cells #[] 3))
  have hb9 : w2.heap.size ≤ (w2.alloc (.cells #[] 3)).heap.size := by simp
  have HB3 := Lib.hid (show Below w2.heap.size w2 (w2.alloc (.cells #[] 3)) from (Below.refl _ _).alloc (Nat.le_refl _) _)
  go_wp2_with (at_builtin; refine wpList_append_rd _ rfl (.tmp 20) (.tmp 21) _ rfl .i64 w2.heap.size 3 i0 (.int .i64 0) 8 Try.underlying49 hi0 hz0 hz1 hz2 rfl (some ⟨w2.heap.size, 0, none⟩) 0 0 [] rfl HE.out _ _ _ _ rfl HR1.out (by simp only [maxLen]; omega) (by omega) hb9 ?_)
  intro A3 c3 w3 ho3 hb3 hs3 _
  have hb3' : Below w2.heap.size w2 w3 := HB3.out.trans hb3
  have HO3 := Lib.hid ho3
  have HB4 := Lib.hid hb3'
  have hW3 := hb3'.size
  clear ho3 hb3 hb3' HE HR1 hb9 HB3
  go_wp2_with fail
  refine (moved0_any w3 HO3.out.rd (xs := []) (fun x hx => by cases hx) (by omega)).mono ?_
  rintro e w4 ⟨A4, c4, rfl, ho4, hb4⟩
  rw [List.length_nil] at ho4 ⊢
  have HO4 := Lib.hid ho4
  have HB5 := Lib.hid (HB2.out.trans ((HB4.out.trans (hb4.mono hW3)).mono (by omega)))
  clear ho4 hb4
  go_wp2_with fail
  go_loopw [10, 11] (fun rv i wr => i = .int .i64 (-1) ∧ rv = .slice none 0 0 ∧ wr = w4) (fun _ _ _ => 0)
  case atStart => exact ⟨rfl, rfl, rfl⟩
  case round =>
    obtain ⟨rfl, rfl, rfl⟩ := hrel
    have hW4 := HB5.out.size
    go_wp2_with fail
    refine (number_any _ HO4.out.rd (fun x hx => by cases hx) (by omega)).mono ?_
    rintro e w5 ⟨A5, c5, rfl, ho5, hb5⟩
    go_wp2_with fail
    refine (number_any w5 (Rd.nil _ _ _ _) (fun x hx => by cases hx) (by omega)).mono ?_
    rintro e w6 ⟨A6, c6, rfl, ho6, hb6⟩
    have HO5 := Lib.hid ho5
    have HO6 := Lib.hid ho6
    have HB7 := Lib.hid hb6
    have HB6 := Lib.hid hb5
    have HAP := Lib.hid (Apart.of ho5 ho6)
    clear ho5 ho6 hb5 hb6
    go_wp2_with fail
    exact bodyPost_ret (v := .tuple #[.slice A5 (ln (bvN [])) c5, .slice A6 (ln (bvN [])) c6, .int .i64 0]) (by simp [results, Try.results19, go_sem]) rfl ⟨A5, c5, A6, c6, rfl, (HO5.out.below HB7.out).lower hW4, HO6.out.lower (Nat.le_trans hW4 HB6.out.size), HB5.out.trans ((HB6.out.trans (HB7.out.mono HB6.out.size)).mono hW4), HAP.out⟩
/-- what the reference's division answers -/
theorem rdiv_all (w : World) {A B : Option Addr} {n c m d x y : Nat} (hx : NA w A n c x) (hy : NA w B m d y) (hn : n ≤ 4096) (hm : m ≤ 4096) :
    Calls Try.prog 19 #[.slice A n c, .slice B m d] w (RetNNE (if y = 0 then 0 else x / y) (if y = 0 then 0 else x % y) (if y = 0 then 11 else 0) w) := by
  by_cases h0 : y = 0
  · subst h0; rw [if_pos rfl, if_pos rfl, if_pos rfl]; exact rdiv_zero w hx hy hn hm
  · rw [if_neg h0, if_neg h0, if_neg h0]
    rcases Nat.eq_zero_or_pos x with hx0 | hx0
    · subst hx0; rw [Nat.zero_div, Nat.zero_mod]; exact rdiv_none w hx hy hn hm (by omega)
    · exact rdiv_any w hx hy hn hm (by omega) hx0
end Go.Proofs.Ytgdogaehiikngaa

/- The reference's division in the words of the printed texts. -/
namespace Go.Proofs.Ytgdogaehiikngaa
set_option linter.unusedSimpArgs false
set_option linter.unusedVariables false
open Go.RowKit Go.Proofs.YtgdogaehiikngaaW.PrintWords Go.Proofs.YtgdogaehiikngaaW.PrintLast

theorem rdiv_giv {A0 A1 : Option Addr} {c0 c1 : Nat} {l0 l1 : List Int} {w : World} {r1 r2 : List Int} {r3 : Int} (hr0 : Kd.C (Kd.int .u64) w A0 l0.length l0) (hc0 : l0.length ≤ c0) (hr1 : Kd.C (Kd.int .u64) w A1 l1.length l1) (hc1 : l1.length ≤ c1) (h : (if okN 4096 l0 ∧ okN 4096 l1 then some (divR (nI l0) (nI l1)) else none) = some (r1, r2, r3)) :
    Calls Try.prog 19 #[.slice A0 l0.length c0, .slice A1 l1.length c1] w fun e w' => ∃ v0_ v1_ : Value, e = .returned (.tuple #[v0_, v1_, .int .i64 r3]) ∧ Kd.R (Kd.int .u64) 41 w' w.heap.size (fun k_ => some k_ ≠ (v1_ : Value).ownBlock) v0_ r1 ∧ Kd.R (Kd.int .u64) 41 w' w.heap.size (fun k_ => some k_ ≠ (v0_ : Value).ownBlock) v1_ r2 ∧ Below w.heap.size w w' := by
  obtain ⟨⟨h0, h1⟩, h⟩ := of_ite h
  simp only [divR, Prod.mk.injEq] at h
  obtain ⟨rfl, rfl, rfl⟩ := h
  have := h0.1; have := h1.1
  refine (rdiv_all w (na_of_C hr0 hc0 h0) (na_of_C hr1 hc1 h1) (by omega) (by omega)).mono ?_
  rintro e w' ⟨A, c, A', c', h1, ho, ho', hb, hap⟩
  refine ⟨.slice A _ c, .slice A' _ c', ?_, R_of_Own ho ?_, R_of_Own ho' ?_, hb⟩
  · rw [h1]
  · rintro g rfl e
    rcases A' with _ | a'
    · simp [Value.ownBlock] at e
    · rcases ho'.ways with ⟨h, _⟩ | ⟨g', h, _⟩
      · cases h
      · rw [h] at e; simp only [Value.ownBlock, Option.some.injEq] at e
        exact hap g rfl (by rw [h, e])
  · rintro g rfl e
    rcases ho.ways with ⟨h, _⟩ | ⟨g', h, _⟩
    · rw [h] at e; simp [Value.ownBlock] at e
    · rw [h] at e; simp only [Value.ownBlock, Option.some.injEq] at e
      exact hap g (by rw [h, e]) rfl
end Go.Proofs.Ytgdogaehiikngaa
