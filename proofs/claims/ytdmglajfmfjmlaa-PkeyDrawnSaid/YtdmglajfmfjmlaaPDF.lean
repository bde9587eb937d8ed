/- Texts of this claim, joined: what its laws use. -/
import Derived.Test.YtdmglajfmfjmlaaPDE
import Derived.ProofKit
import Derived.OpenShut
import Derived.ShutString
import Derived.ChangeOld
import Derived.Below
import Derived.Lib.SmallJoins
import Derived.LaidMore
import Derived.WalkKit
import Derived.ChangeSlices
namespace Go.Proofs.Ytdmglajfmfjmlaa
set_option linter.unusedSimpArgs false
set_option linter.unusedVariables false
set_option maxRecDepth 100000
open Go.RowKit Go.Proofs.YtdmglajfmfjmlaaW.PrintWords Go.Proofs.YtdmglajfmfjmlaaW.PrintLast Go.Proofs.YtdmglajfmfjmlaaW.PrintMore
attribute [local go_sem] Oper.semAt_some
theorem eql_nil64 (w : World) (a : Option Addr) (n c : Nat) : (binOp .eql 24 (.slice a n c) (.slice none 0 0)).run Try.prog w = .ok (.bool a.isNone) w := Lib.run_eql_slice_nil w 24 40 a n c 0 0 Try.underlying24
attribute [local go_sem] eql_nil64
theorem and1_64 {x : Nat} (h : x < 9223372036854775808) : Go.bits .and .i64 (x : Int) 1 = ((x % 2 : Nat) : Int) := by
  have e : Go.bits .and .i64 (x : Int) 1 = IntKind.i64.wrap (((BitVec.ofInt 64 (x : Int) &&& BitVec.ofInt 64 (1 : Int)).toNat : Nat) : Int) := rfl
  have h1 : (BitVec.ofInt 64 (x : Int)).toNat = x := by simp [BitVec.toNat_ofInt]; omega
  have h2 : (BitVec.ofInt 64 (1 : Int)).toNat = 2 ^ 1 - 1 := by decide
  rw [e, BitVec.toNat_and, h1, h2, Nat.and_two_pow_sub_one_eq_mod, IntKind.wrap_i64]
  omega
theorem keeps_below {w w' : World} (h : Below w.heap.size w w') : KeepsOthers w w' := KeepsOthers.of_grownBy (grown_none h) (fun j o e => by cases e)
structure DrC (w0 : World) (S : Nat) (r6 : Array Value) (r7 r8 vp : Value) (W : World) : Prop where
  b5 : Bk W S 40 #[.int .u64 3]
  b6 : Bk W (S + 1) 26 r6
  b7 : Bk W (S + 2) 3 #[r7]
  b8 : Bk W (S + 3) 27 #[r8]
  b9 : Bk W (S + 4) 24 #[vp]
  bel : Below S w0 W
theorem DrC.kept {w0 W W' : World} {S : Nat} {r6 : Array Value} {r7 r8 vp : Value} {row : Option Nat} (h : DrC w0 S r6 r7 r8 vp W) (hs : S ≤ w0.heap.size) (hg : W.grownBy W' row) (hr : ∀ q, row = some q → S + 4 < q) : DrC w0 S r6 r7 r8 vp W' := by
  have key : ∀ k, k ≤ S + 4 → k < W.heap.size → W'.heap[k]? = W.heap[k]? := fun k hk hl => hg.block k hl (fun e => by have := hr k e.symm; omega)
  exact ⟨(key _ (by omega) h.b5.lt).trans h.b5, (key _ (by omega) h.b6.lt).trans h.b6, (key _ (by omega) h.b7.lt).trans h.b7, (key _ (by omega) h.b8.lt).trans h.b8, (key _ (by omega) h.b9.lt).trans h.b9,
    h.bel.grown hg (Nat.le_trans hs h.bel.size) (fun k e => by have := hr k e; omega)⟩
theorem DrC.below {w0 W W' : World} {S : Nat} {r6 : Array Value} {r7 r8 vp : Value} (h : DrC w0 S r6 r7 r8 vp W) (hs : S ≤ w0.heap.size) (hb : Below W.heap.size W W') : DrC w0 S r6 r7 r8 vp W' := h.kept hs (grown_none hb) (fun q e => by cases e)
def DrO (B : Nat) (po : Option Nat) (vp : Value) (W : World) : Prop := match po with
  | none => vp = .slice none 0 0
  | some p => 0 < p ∧ GOW .u64 40 B (ofN p) vp W
theorem GOW.kept {k : IntKind} {e : TypeId} {base : Nat} {l : List Int} {v : Value} {W W' : World} {row : Option Nat} (h : GOW k e base l v W) (hg : W.grownBy W' row) (hr : ∀ r, row = some r → r < base ∨ ∃ o : Obj, W.heap[r]? = some o ∧ o.isCells = false) : GOW k e base l v W' :=
  h.here fun g o h1 h2 h3 => hg.block g (Array.getElem?_eq_some_iff.1 h2).1 (fun e => by
    rcases hr g e.symm with h4 | ⟨o', h4, h5⟩
    · omega
    · rw [h2] at h4; cases h4; rw [h3] at h5; cases h5)
theorem DrO.kept {B : Nat} {po : Option Nat} {vp : Value} {W W' : World} {row : Option Nat} (h : DrO B po vp W) (hg : W.grownBy W' row) (hr : ∀ r, row = some r → r < B ∨ ∃ o : Obj, W.heap[r]? = some o ∧ o.isCells = false) : DrO B po vp W' := by
  cases po with
  | none => exact h
  | some p => exact ⟨h.1, h.2.kept hg hr⟩
theorem GOW.form {base p : Nat} {v : Value} {W : World} (h : GOW .u64 40 base (ofN p) v W) (hp : 0 < p) : ∃ g n c, v = .slice (some ⟨g, 0, none⟩) n c := by
  obtain ⟨A, c, rfl, ho⟩ := h
  rcases ho.ways with ⟨rfl, h0, _⟩ | ⟨g, rfl, _⟩
  · exfalso
    have : ofN p = [] := List.eq_nil_of_length_eq_zero h0
    have h2 := congrArg nI this
    rw [nI_ofN, show nI ([] : List Int) = 0 from rfl] at h2
    omega
  · exact ⟨g, _, c, rfl⟩
def DrawI (w0 : World) (S B M d : Nat) (ds : List Nat) (pre : List (Nat × Value)) (W : World) : Prop :=
  ∃ po vp, DrO B po vp W ∧ DrC w0 S #[.slice none 0 0, .slice none 0 0, .slice none 0 0] (.int .i64 0) (.int .i64 0) vp W ∧ pre.length ≤ M ∧ drawF (canN d ds) M 0 none = drawF (canN d ds) (M - pre.length) pre.length po ∧ (∀ p, po = some p → Btw d p ∧ goodC p = true) ∧ B ≤ W.heap.size
def DrawX (w0 : World) (S B M d : Nat) (ds : List Nat) (cc : Code) (W : World) : Prop :=
  cc = .ret ∧ ∃ p q i v0 v1 v2 vp, drawF (canN d ds) M 0 none = some (p, q, i) ∧ DrC w0 S #[v0, v1, v2] (.int .i64 ((szD d * (i + 1) : Nat) : Int)) (.int .i64 0) vp W ∧
    GOW .u64 40 B (ofN (p * q)) v0 W ∧ GOW .u64 40 B (ofN 3) v1 W ∧ GOW .u64 40 B (ofN (invN 3 ((p - 1) * (q - 1)))) v2 W
theorem DrawI.kept {w0 : World} {S B M d : Nat} {ds : List Nat} {pre : List (Nat × Value)} {W W' : World} {row : Option Nat} (h : DrawI w0 S B M d ds pre W) (hs : S ≤ w0.heap.size) (hg : W.grownBy W' row) (hr : ∀ r, row = some r → S + 4 < r ∧ (r < B ∨ ∃ o : Obj, W.heap[r]? = some o ∧ o.isCells = false)) : DrawI w0 S B M d ds pre W' := by
  obtain ⟨po, vp, h1, h2, h3, h4, h5, h6⟩ := h
  exact ⟨po, vp, h1.kept hg (fun r e => (hr r e).2), h2.kept hs hg (fun r e => (hr r e).1), h3, h4, h5, Nat.le_trans h6 hg.size⟩
theorem DrawX.kept {w0 : World} {S B M d : Nat} {ds : List Nat} {cc : Code} {W W' : World} {row : Option Nat} (h : DrawX w0 S B M d ds cc W) (hs : S ≤ w0.heap.size) (hg : W.grownBy W' row) (hr : ∀ r, row = some r → S + 4 < r ∧ (r < B ∨ ∃ o : Obj, W.heap[r]? = some o ∧ o.isCells = false)) : DrawX w0 S B M d ds cc W' := by
  obtain ⟨e, p, q, i, v0, v1, v2, vp, h1, h2, h3, h4, h5⟩ := h
  exact ⟨e, p, q, i, v0, v1, v2, vp, h1, h2.kept hs hg (fun r e => (hr r e).1), h3.kept hg (fun r e => (hr r e).2), h4.kept hg (fun r e => (hr r e).2), h5.kept hg (fun r e => (hr r e).2)⟩
def DrawP (d : Nat) (ds : List Nat) (w : World) (e_ : Ending) (w' : World) : Prop :=
  (∃ p q i v0 v1 v2, drawF (canN d ds) (ds.length / szD d) 0 none = some (p, q, i) ∧ e_ = .returned (.tuple #[.agg #[v0, v1, v2], .int .i64 ((szD d * (i + 1) : Nat) : Int), .int .i64 0]) ∧ LI .u64 w' v0 (ofN (p * q)) ∧ LI .u64 w' v1 (ofN 3) ∧ LI .u64 w' v2 (ofN (invN 3 ((p - 1) * (q - 1)))) ∧ Below w.heap.size w w') ∨
  (drawF (canN d ds) (ds.length / szD d) 0 none = none ∧ e_ = .returned (.tuple #[.agg #[.slice none 0 0, .slice none 0 0, .slice none 0 0], .int .i64 0, .int .i64 52]) ∧ Below w.heap.size w w')
theorem drawF_step {f : Nat → Nat} {M i : Nat} {po : Option Nat} (h : i < M) : drawF f (M - i) i po = if skipC po (f i) = true then drawF f (M - (i + 1)) (i + 1) po else
    match po with
    | none => drawF f (M - (i + 1)) (i + 1) (some (f i))
    | some p => some (p, f i, i) := by
  rw [show M - i = (M - (i + 1)) + 1 by omega]
  rfl
theorem btw_ok {d c : Nat} (h : Btw d c) (h1 : 8 ≤ d) (h2 : d ≤ 32) : 192 ≤ c ∧ c < 4294967296 ∧ ∀ m, 1 ≤ m → ∀ x, x ≤ c → okN m (ofN x) := by
  obtain ⟨h3, h4⟩ := h
  have h5 : 2 ^ 6 ≤ 2 ^ (d - 2) := Nat.pow_le_pow_right (by decide) (by omega)
  have h6 : 2 ^ d ≤ 2 ^ 32 := Nat.pow_le_pow_right (by decide) h2
  exact ⟨by omega, by omega, fun m hm x hx => okN_ofN (Nat.le_trans (ln_small (by omega)) hm)⟩
theorem cmp0 (x y : Nat) : (cmpN x y == 0) = decide (x = y) := by
  unfold cmpN
  by_cases h1 : x < y
  · rw [if_pos h1, decide_eq_false (by omega)]; rfl
  · rw [if_neg h1]
    by_cases h2 : x = y
    · subst h2; simp
    · rw [if_pos (by omega), decide_eq_false h2]; rfl
set_option maxRecDepth 100000 in
set_option maxHeartbeats 8000000 in
theorem draw_any (w : World) {A : Option Addr} {c d : Nat} {ds : List Nat} (h1 : 8 ≤ d) (h2 : d ≤ 32) (hl : ds.length ≤ 1099511627776) (h8 : ∀ x ∈ ds, x < 256) (hrd : Rd .u8 w A ds.length c ds) (hA : ∀ ad, A = some ad → ad.block < w.heap.size) :
    Calls Try.prog 18 #[.slice A ds.length c, .int .i64 ((2 * d : Nat) : Int), .int .u64 3] w (DrawP d ds w) := by
  refine (callsIn_wide (n := 7)).1 (callsIn_of_wp_marks Try.func18 rfl trivial ?_ rfl)
  simp only [Try.ntmps18, List.size_toArray, List.length_cons, List.length_nil, Nat.reduceAdd, Nat.reduceSub, Array.replicate_succ, Array.replicate_zero, List.push_toArray, List.append_toArray, List.nil_append, List.cons_append]
  refine wpIn_wide.2 ?_
  obtain ⟨b, hb⟩ : ∃ b, 2 * d = b := ⟨_, rfl⟩
  have t1 := and1_64 (x := b) (by omega)
  rw [show b % 2 = 0 by omega] at t1
  have t2 : ¬ (b : Int) < 16 := by omega
  have t3 : ¬ (1024 : Int) < (b : Int) := by omega
  have t4 : Go.bits .and .u64 3 1 = 1 := by decide
  have t5 : Int.tdiv (b : Int) 2 = (d : Int) := by rw [Int.tdiv_eq_ediv_of_nonneg (by omega)]; omega
  have t6 : IntKind.i64.wrap (d : Int) = (d : Int) := IntWalk.i64_in _ (by omega)
  rw [hb]
  go_upto_region 4 with (fail)
  obtain ⟨S, hS⟩ : ∃ S, w.heap.size = S := ⟨_, rfl⟩
  have hC : DrC w S #[.slice none 0 0, .slice none 0 0, .slice none 0 0] (.int .i64 0) (.int .i64 0) (.slice none 0 0) (((((w.alloc (.cells #[.int .u64 3] 40)).alloc (.cells #[.slice none 0 0, .slice none 0 0, .slice none 0 0] 26)).alloc (.cells #[.int .i64 0] 3)).alloc (.cells #[.int .i64 0] 27)).alloc (.cells #[.slice none 0 0] 24)) := by
    refine ⟨?_, ?_, ?_, ?_, ?_, ?_⟩
    · rw [← hS]; exact ((((Bk.new _ _ _).alloc _).alloc _).alloc _).alloc _
    · exact (((Bk.at_new _ _ (by simp; omega)).alloc _).alloc _).alloc _
    · exact ((Bk.at_new _ _ (by simp; omega)).alloc _).alloc _
    · exact (Bk.at_new _ _ (by simp; omega)).alloc _
    · exact Bk.at_new _ _ (by simp; omega)
    · exact (((((Below.refl S w).alloc (by omega) _).alloc (by simp <;> omega) _).alloc (by simp <;> omega) _).alloc (by simp <;> omega) _).alloc (by simp <;> omega) _
  have hsz5 : (((((w.alloc (.cells #[.int .u64 3] 40)).alloc (.cells #[.slice none 0 0, .slice none 0 0, .slice none 0 0] 26)).alloc (.cells #[.int .i64 0] 3)).alloc (.cells #[.int .i64 0] 27)).alloc (.cells #[.slice none 0 0] 24)).heap.size = S + 5 := by simp; omega
  generalize ((((w.alloc (.cells #[.int .u64 3] 40)).alloc (.cells #[.slice none 0 0, .slice none 0 0, .slice none 0 0] 26)).alloc (.cells #[.int .i64 0] 3)).alloc (.cells #[.int .i64 0] 27)).alloc (.cells #[.slice none 0 0] 24) = w5 at hC hsz5 ⊢
  rw [hS]
  simp only [Nat.add_assoc, Nat.reduceAdd]
  have hch := cand_maker w5 A ds.length c d
  have hD1 : Bk ((w5.alloc (.cells #[.slice A ds.length c] 22)).alloc (.cells #[.int .i64 (d : Int)] 3)) (S + 5) 22 #[.slice A ds.length c] := (Bk.at_new _ _ (by omega)).alloc _
  have hD2 : Bk ((w5.alloc (.cells #[.slice A ds.length c] 22)).alloc (.cells #[.int .i64 (d : Int)] 3)) (S + 5 + 1) 3 #[.int .i64 (d : Int)] := Bk.at_new _ _ (by simp; omega)
  have hbel : Below w5.heap.size w5 ((w5.alloc (.cells #[.slice A ds.length c] 22)).alloc (.cells #[.int .i64 (d : Int)] 3)) := ((Below.refl _ w5).alloc (Nat.le_refl _) _).alloc (by simp) _
  have hsz7 : ((w5.alloc (.cells #[.slice A ds.length c] 22)).alloc (.cells #[.int .i64 (d : Int)] 3)).heap.size = S + 7 := by simp; omega
  generalize (w5.alloc (.cells #[.slice A ds.length c] 22)).alloc (.cells #[.int .i64 (d : Int)] 3) = w7 at hch hD1 hD2 hbel hsz7
  rw [hsz5] at hch
  simp only [Nat.add_assoc, Nat.reduceAdd] at hch
  have hsw : S ≤ w.heap.size := by omega
  have HC7 := Lib.hid (hC.below hsw hbel)
  have HD1 := Lib.hid hD1
  have HD2 := Lib.hid hD2
  have hrd7 : Rd .u8 w7 A ds.length c ds := (hrd.below (show Below w.heap.size w w5 by rw [hS]; exact hC.bel)).below hbel
  have HRD := Lib.hid hrd7
  have HA := Lib.hid (show ∀ ad, A = some ad → ad.block ≠ S + 4 by intro ad e; have := hA ad e; omega)
  have HS := Lib.hid hS
  clear hC hD1 hD2 hbel hrd7 hrd hA hS
  go_wp2_with (go_at_call 54; refine hch.mono ?_; rintro e w7' ⟨rfl, rfl⟩)
  clear hch
  refine (wpIn_wide (n := 7)).1 ?_
  apply range_may (F := Fence.wide) rfl (by omega) (gf := 95) (lb := #[.pointer (some ⟨S + 6, 0, none⟩), .pointer (some ⟨S + 5, 0, none⟩)]) rfl trivial (enters_of Try.func95 (by kernel_rfl) rfl)
    (encs := canE d) (Ok := canOk d ds w7'.heap.size) (S := fun xs => xs.length = ds.length / szD d) (Bn := S + 5) (Pr := fun k => k < w7'.heap.size ∧ k ≠ S + 4) (show S + 5 < w7'.heap.size by omega) (fun k h => h.1)
    (cand_may 6 (by omega) w7' (S + 4) (S + 5) A c d ds (by omega) (by omega) hl h8 HRD.out HA.out HD1.out HD2.out (by omega) (by omega) (by omega) (S + 5)) (fun _ => rfl)
    (DrawI w S (S + 7) (ds.length / szD d) d ds) (fun cc _ W => DrawX w S (S + 7) (ds.length / szD d) d ds cc W)
    (fun s W W' row hs hg hr => hs.kept hsw hg (fun r e => ⟨by have := (hr r e).1; omega, .inr (hr r e).2⟩))
    (fun cc s W W' row hs hg hr => hs.kept hsw hg (fun r e => ⟨by have := (hr r e).1; omega, .inr (hr r e).2⟩))
    (fun s W W' row hs hg hr => hs.kept hsw hg (fun r e => by have := hr r e; exact ⟨by omega, .inl (by omega)⟩))
    (fun pre x W l hok hlp l' => ⟨hok.1, hok.2.1, hok.2.2.kept (grownBy_putObj' W _ _) (fun r e => by cases e; exact .inr ⟨_, hlp, rfl⟩)⟩)
    ⟨none, _, rfl, HC7.out, Nat.zero_le _, rfl, (fun p h => by cases h), by omega⟩
  case hassign =>
    intro l x W K hK
    dsimp only [canE]
    gi_wp2
    exact hK
  case hbody =>
    rintro l pre ⟨i, v⟩ W ⟨po, vp, hpo, hC, hpl, hdr, hpp, hBW⟩ ⟨hi, hle, hv⟩
    dsimp only at hi hle hv ⊢
    rw [hsz7] at hv
    have hbt := canN_btw h1 h2 h8 hle
    have hiM : i < ds.length / szD d := by
      have hs1 : 1 ≤ szD d := by unfold szD; omega
      have := (Nat.le_div_iff_mul_le (by omega)).2 (show (i + 1) * szD d ≤ ds.length by rw [Nat.mul_comm]; exact hle)
      omega
    rw [← hi] at hdr hpl
    rw [drawF_step hiM] at hdr
    have hlen : (pre ++ [(i, v)]).length = i + 1 := by rw [List.length_append, ← hi]; rfl
    obtain ⟨U, hU⟩ : ∃ U, szD d * (i + 1) = U := ⟨_, rfl⟩
    have hU2 : (szD d : Int) * ((i : Int) + 1) = (U : Int) := by rw [← hU]; rfl
    rw [hU2]
    obtain ⟨cn, hcn⟩ : ∃ cn, canN d ds i = cn := ⟨_, rfl⟩
    rw [hcn] at hv hbt hdr
    obtain ⟨c1, c2, cok⟩ := btw_ok hbt h1 h2
    obtain ⟨gv, nv', cv, hvf⟩ := hv.form (by omega)
    have HOF := Lib.hid (fun w => of_li 3 (by omega) w)
    simp only [show ((3 : Nat) : Int) = 3 from rfl] at HOF
    have HLE := Lib.hid (fun w' (h : GOW .u64 40 (S + 7) (ofN cn) v w') => less_li (h.li (ofN_nn _)) (cok 262144 (by omega) cn (Nat.le_refl _)))
    rw [nI_ofN] at HLE
    have HMY := Lib.hid (fun w' (h : GOW .u64 40 (S + 7) (ofN cn) v w') => may_li (h.li (ofN_nn _)) (cok 64 (by omega) cn (Nat.le_refl _)))
    rw [nI_ofN] at HMY
    have HAL := Lib.hid (fun w' u0 u1 (x0 : LI .u64 w' u0 (ofN 3)) (x1 : LI .u64 w' u1 (ofN (cn - 1))) => alone_li x0 x1 (cok 262144 (by omega) 3 (by omega)) (cok 262144 (by omega) (cn - 1) (by omega)) (by
      rw [nI_ofN, nI_ofN]
      have := Nat.gcd_le_left (cn - 1) (show 0 < 3 by omega)
      exact Nat.le_trans (ln_small (by omega)) (by omega : 1 ≤ 262144)))
    rw [nI_ofN, nI_ofN] at HAL
    have hgd : goodC cn = (aloneB 3 (cn - 1) && mayB cn) := rfl
    have HC := Lib.hid hC
    have HV := Lib.hid hv
    have HX := Lib.hid (Below.refl W.heap.size W)
    have c5 := hC.b5.cell 0
    have c9 := hC.b9.cell 0
    have HN := Lib.hid (And.intro hcn (And.intro hlen hU))
    have HBW := Lib.hid hBW
    have HPO := Lib.hid hpo
    have HPP := Lib.hid hpp
    have HDR := Lib.hid hdr
    have HBT := Lib.hid hbt
    generalize aloneB 3 (cn - 1) = al at HAL hgd
    generalize mayB cn = mb at HMY hgd
    have HGD := Lib.hid hgd
    subst hvf
    clear hC hv hcn hlen hU hU2 hBW hpo hpp hdr hbt hgd cok hi hpl hle HD1 HD2 HRD HA HC7 h8
    -- it goes on
    have HSK := Lib.hid (fun (w' : World) (hs : skipC po cn = true) (hx : Below W.heap.size W w') (hc : DrC w S #[.slice none 0 0, .slice none 0 0, .slice none 0 0] (.int .i64 0) (.int .i64 0) vp w') => show KeepsOthers W w' ∧ (∀ k, (k < w7'.heap.size ∧ k ≠ S + 4) → w'.heap[k]? = W.heap[k]?) ∧ DrawI w S (S + 7) (ds.length / szD d) d ds (pre ++ [(i, .slice (some ⟨gv, 0, none⟩) nv' cv)]) w' by
      refine ⟨keeps_below hx, fun k hk => hx.block k (by have := HBW.out; omega), po, vp, HPO.out.kept (grown_none hx) (fun r e => by cases e), hc, by rw [HN.out.2.1]; omega, ?_, HPP.out, Nat.le_trans HBW.out hx.size⟩
      rw [HDR.out, if_pos hs, HN.out.2.1])
    cases po with
    | none =>
      obtain rfl : vp = .slice none 0 0 := HPO.out
      cases al with
      | false =>
        have HSC := Lib.hid (show skipC none cn = true by unfold skipC; rw [HGD.out]; rfl)
        gi_wp2_with (first
          | (refine ⟨trivial, ?_⟩; (with_reducible refine (CallsIn.inRound l (callsIn_wide.2 (HOF.out _))).mono ?_); rintro e_ w1 ⟨u0, rfl, hb, hu⟩; replace HC := Lib.hid (HC.out.below hsw hb); replace HV := Lib.hid (HV.out.kept (grown_none hb) (fun r e => by cases e)); replace HX := Lib.hid (HX.out.trans (hb.mono HX.out.size)); clear hb c5 c9; have HU0 := Lib.hid (GLI.li hu); clear hu)
          | (refine ⟨trivial, ?_⟩; (with_reducible refine (CallsIn.inRound l (callsIn_wide.2 (HLE.out _ HV.out))).mono ?_); rintro e_ w2 ⟨u1, rfl, hb, hu⟩; replace HC := Lib.hid (HC.out.below hsw hb); replace HV := Lib.hid (HV.out.kept (grown_none hb) (fun r e => by cases e)); replace HX := Lib.hid (HX.out.trans (hb.mono HX.out.size)); replace HU0 := Lib.hid (HU0.out.below hb); clear hb; have HU1 := Lib.hid (GLI.li hu); clear hu)
          | (refine ⟨trivial, ?_⟩; (with_reducible refine (CallsIn.inRound l (callsIn_wide.2 (HAL.out _ _ _ HU0.out HU1.out))).mono ?_); rintro e_ w3 ⟨rfl, hb⟩; replace HC := Lib.hid (HC.out.below hsw hb); replace HV := Lib.hid (HV.out.kept (grown_none hb) (fun r e => by cases e)); replace HX := Lib.hid (HX.out.trans (hb.mono HX.out.size)); clear hb)
          | (refine ⟨trivial, ?_⟩; (with_reducible refine (CallsIn.inRound l (callsIn_wide.2 (HMY.out _ HV.out))).mono ?_); rintro e_ w4 ⟨rfl, hb⟩; replace HC := Lib.hid (HC.out.below hsw hb); replace HV := Lib.hid (HV.out.kept (grown_none hb) (fun r e => by cases e)); replace HX := Lib.hid (HX.out.trans (hb.mono HX.out.size)); clear hb)
          | (refine ⟨trivial, ?_⟩))
        exact HSK.out _ HSC.out HX.out HC.out
      | true =>
        cases mb with
        | false =>
          have HSC := Lib.hid (show skipC none cn = true by unfold skipC; rw [HGD.out]; rfl)
          gi_wp2_with (first
            | (refine ⟨trivial, ?_⟩; (with_reducible refine (CallsIn.inRound l (callsIn_wide.2 (HOF.out _))).mono ?_); rintro e_ w1 ⟨u0, rfl, hb, hu⟩; replace HC := Lib.hid (HC.out.below hsw hb); replace HV := Lib.hid (HV.out.kept (grown_none hb) (fun r e => by cases e)); replace HX := Lib.hid (HX.out.trans (hb.mono HX.out.size)); clear hb c5 c9; have HU0 := Lib.hid (GLI.li hu); clear hu)
            | (refine ⟨trivial, ?_⟩; (with_reducible refine (CallsIn.inRound l (callsIn_wide.2 (HLE.out _ HV.out))).mono ?_); rintro e_ w2 ⟨u1, rfl, hb, hu⟩; replace HC := Lib.hid (HC.out.below hsw hb); replace HV := Lib.hid (HV.out.kept (grown_none hb) (fun r e => by cases e)); replace HX := Lib.hid (HX.out.trans (hb.mono HX.out.size)); replace HU0 := Lib.hid (HU0.out.below hb); clear hb; have HU1 := Lib.hid (GLI.li hu); clear hu)
            | (refine ⟨trivial, ?_⟩; (with_reducible refine (CallsIn.inRound l (callsIn_wide.2 (HAL.out _ _ _ HU0.out HU1.out))).mono ?_); rintro e_ w3 ⟨rfl, hb⟩; replace HC := Lib.hid (HC.out.below hsw hb); replace HV := Lib.hid (HV.out.kept (grown_none hb) (fun r e => by cases e)); replace HX := Lib.hid (HX.out.trans (hb.mono HX.out.size)); clear hb)
            | (refine ⟨trivial, ?_⟩; (with_reducible refine (CallsIn.inRound l (callsIn_wide.2 (HMY.out _ HV.out))).mono ?_); rintro e_ w4 ⟨rfl, hb⟩; replace HC := Lib.hid (HC.out.below hsw hb); replace HV := Lib.hid (HV.out.kept (grown_none hb) (fun r e => by cases e)); replace HX := Lib.hid (HX.out.trans (hb.mono HX.out.size)); clear hb; have c5 := HC.out.b5.cell 0; have c9 := HC.out.b9.cell 0; have f9 := HC.out.b9.frozen 0)
            | (refine ⟨trivial, ?_⟩))
          exact HSK.out _ HSC.out HX.out HC.out
        | true =>
          have HGC := Lib.hid (show goodC cn = true by rw [HGD.out]; rfl)
          have HSC := Lib.hid (show skipC none cn = false by unfold skipC; rw [HGC.out]; rfl)
          gi_wp2_with (first
            | (refine ⟨trivial, ?_⟩; (with_reducible refine (CallsIn.inRound l (callsIn_wide.2 (HOF.out _))).mono ?_); rintro e_ w1 ⟨u0, rfl, hb, hu⟩; replace HC := Lib.hid (HC.out.below hsw hb); replace HV := Lib.hid (HV.out.kept (grown_none hb) (fun r e => by cases e)); replace HX := Lib.hid (HX.out.trans (hb.mono HX.out.size)); clear hb c5 c9; have HU0 := Lib.hid (GLI.li hu); clear hu)
            | (refine ⟨trivial, ?_⟩; (with_reducible refine (CallsIn.inRound l (callsIn_wide.2 (HLE.out _ HV.out))).mono ?_); rintro e_ w2 ⟨u1, rfl, hb, hu⟩; replace HC := Lib.hid (HC.out.below hsw hb); replace HV := Lib.hid (HV.out.kept (grown_none hb) (fun r e => by cases e)); replace HX := Lib.hid (HX.out.trans (hb.mono HX.out.size)); replace HU0 := Lib.hid (HU0.out.below hb); clear hb; have HU1 := Lib.hid (GLI.li hu); clear hu)
            | (refine ⟨trivial, ?_⟩; (with_reducible refine (CallsIn.inRound l (callsIn_wide.2 (HAL.out _ _ _ HU0.out HU1.out))).mono ?_); rintro e_ w3 ⟨rfl, hb⟩; replace HC := Lib.hid (HC.out.below hsw hb); replace HV := Lib.hid (HV.out.kept (grown_none hb) (fun r e => by cases e)); replace HX := Lib.hid (HX.out.trans (hb.mono HX.out.size)); clear hb)
            | (refine ⟨trivial, ?_⟩; (with_reducible refine (CallsIn.inRound l (callsIn_wide.2 (HMY.out _ HV.out))).mono ?_); rintro e_ w4 ⟨rfl, hb⟩; replace HC := Lib.hid (HC.out.below hsw hb); replace HV := Lib.hid (HV.out.kept (grown_none hb) (fun r e => by cases e)); replace HX := Lib.hid (HX.out.trans (hb.mono HX.out.size)); clear hb; have c5 := HC.out.b5.cell 0; have c9 := HC.out.b9.cell 0; have f9 := HC.out.b9.frozen 0)
            | (refine ⟨trivial, ?_⟩))
          have hx := HX.out
          have hc := HC.out
          refine ⟨(keeps_below hx).trans (KeepsOthers.setCell _ _ _), fun k hk => (Below.heap_setCell _ ⟨S + 4, 0, none⟩ _ k (by show k ≠ S + 4; omega)).trans (hx.block k (by have := HBW.out; omega)), some cn, .slice (some ⟨gv, 0, none⟩) nv' cv, ⟨by omega, HV.out.here fun g o h3 _ _ => Below.heap_setCell _ ⟨S + 4, 0, none⟩ _ g (by show g ≠ S + 4; omega)⟩, ?_, by rw [HN.out.2.1]; omega, ?_, ?_, ?_⟩
          · exact ⟨hc.b5.far (by show S ≠ S + 4; omega) _, hc.b6.far (by show S + 1 ≠ S + 4; omega) _, hc.b7.far (by show S + 2 ≠ S + 4; omega) _, hc.b8.far (by show S + 3 ≠ S + 4; omega) _, hc.b9.set 0 _, hc.bel.setCell (p := ⟨S + 4, 0, none⟩) (by show S ≤ S + 4; omega) _⟩
          · rw [HDR.out, HSC.out, HN.out.2.1]; rfl
          · intro p hp
            cases hp
            exact ⟨HBT.out, HGC.out⟩
          · have := HBW.out
            have := hx.size
            simp; omega
    | some p =>
      obtain ⟨hp0, hvp⟩ := HPO.out
      obtain ⟨gp, np, cp, hvf⟩ := hvp.form hp0
      obtain ⟨pbt, pgd⟩ := HPP.out p rfl
      obtain ⟨p1, p2, pok⟩ := btw_ok pbt h1 h2
      obtain ⟨_, _, cok⟩ := btw_ok HBT.out h1 h2
      have HP := Lib.hid hvp
      have HCP := Lib.hid (fun w' (h : GOW .u64 40 (S + 7) (ofN p) vp w') (h' : GOW .u64 40 (S + 7) (ofN cn) (.slice (some ⟨gv, 0, none⟩) nv' cv) w') => cmp_li (h.li (ofN_nn _)) (h'.li (ofN_nn _)) (pok 262144 (by omega) p (Nat.le_refl _)) (cok 262144 (by omega) cn (Nat.le_refl _)))
      rw [nI_ofN, nI_ofN] at HCP
      have hz := cmp0 p cn
      have HMK := Lib.hid (fun (hne : p ≠ cn) (hg : goodC cn = true) w' (h : GOW .u64 40 (S + 7) (ofN p) vp w') (h' : GOW .u64 40 (S + 7) (ofN cn) (.slice (some ⟨gv, 0, none⟩) nv' cv) w') => make_lo (e := 3) (N := ofN (p * cn)) (E := ofN 3) (D := ofN (invN 3 ((p - 1) * (cn - 1)))) (r := 0) (h.li (ofN_nn _)) (h'.li (ofN_nn _)) (pok 64 (by omega) p (Nat.le_refl _)) (cok 64 (by omega) cn (Nat.le_refl _)) (by omega) (by rw [nI_ofN, nI_ofN]; exact (draw_make h1 h2 pbt HBT.out pgd hg hne).1))
      simp only [show ((3 : Nat) : Int) = 3 from rfl] at HMK
      subst hvf
      generalize cmpN p cn = z at HCP hz
      clear hvp pok cok pbt pgd hp0
      by_cases hpc : p = cn
      · have HSC := Lib.hid (show skipC (some p) cn = true by unfold skipC; rw [hpc, decide_eq_true rfl]; rfl)
        rw [decide_eq_true hpc] at hz
        clear hpc
        gi_wp2_with (first
          | (refine ⟨trivial, ?_⟩; (with_reducible refine (CallsIn.inRound l (callsIn_wide.2 (HCP.out _ HP.out HV.out))).mono ?_); rintro e_ w0' ⟨rfl, hb⟩; replace HC := Lib.hid (HC.out.below hsw hb); replace HV := Lib.hid (HV.out.kept (grown_none hb) (fun r e => by cases e)); replace HX := Lib.hid (HX.out.trans (hb.mono HX.out.size)); replace HP := Lib.hid (HP.out.kept (grown_none hb) (fun r e => by cases e)); clear hb c5 c9; have c5 := HC.out.b5.cell 0; have c9 := HC.out.b9.cell 0)
          | (refine ⟨trivial, ?_⟩; (with_reducible refine (CallsIn.inRound l (callsIn_wide.2 (HOF.out _))).mono ?_); rintro e_ w1 ⟨u0, rfl, hb, hu⟩; replace HC := Lib.hid (HC.out.below hsw hb); replace HV := Lib.hid (HV.out.kept (grown_none hb) (fun r e => by cases e)); replace HX := Lib.hid (HX.out.trans (hb.mono HX.out.size)); replace HP := Lib.hid (HP.out.kept (grown_none hb) (fun r e => by cases e)); clear hb c5 c9; have HU0 := Lib.hid (GLI.li hu); clear hu)
          | (refine ⟨trivial, ?_⟩; (with_reducible refine (CallsIn.inRound l (callsIn_wide.2 (HLE.out _ HV.out))).mono ?_); rintro e_ w2 ⟨u1, rfl, hb, hu⟩; replace HC := Lib.hid (HC.out.below hsw hb); replace HV := Lib.hid (HV.out.kept (grown_none hb) (fun r e => by cases e)); replace HX := Lib.hid (HX.out.trans (hb.mono HX.out.size)); replace HP := Lib.hid (HP.out.kept (grown_none hb) (fun r e => by cases e)); replace HU0 := Lib.hid (HU0.out.below hb); clear hb; have HU1 := Lib.hid (GLI.li hu); clear hu)
          | (refine ⟨trivial, ?_⟩; (with_reducible refine (CallsIn.inRound l (callsIn_wide.2 (HAL.out _ _ _ HU0.out HU1.out))).mono ?_); rintro e_ w3 ⟨rfl, hb⟩; replace HC := Lib.hid (HC.out.below hsw hb); replace HV := Lib.hid (HV.out.kept (grown_none hb) (fun r e => by cases e)); replace HX := Lib.hid (HX.out.trans (hb.mono HX.out.size)); replace HP := Lib.hid (HP.out.kept (grown_none hb) (fun r e => by cases e)); clear hb)
          | (refine ⟨trivial, ?_⟩; (with_reducible refine (CallsIn.inRound l (callsIn_wide.2 (HMY.out _ HV.out))).mono ?_); rintro e_ w4 ⟨rfl, hb⟩; replace HC := Lib.hid (HC.out.below hsw hb); replace HV := Lib.hid (HV.out.kept (grown_none hb) (fun r e => by cases e)); replace HX := Lib.hid (HX.out.trans (hb.mono HX.out.size)); replace HP := Lib.hid (HP.out.kept (grown_none hb) (fun r e => by cases e)); clear hb)
          | (refine ⟨trivial, ?_⟩))
        exact HSK.out _ HSC.out HX.out HC.out
      rw [decide_eq_false hpc] at hz
      have HNE := Lib.hid hpc
      clear hpc
      cases al with
      | false =>
        have HSC := Lib.hid (show skipC (some p) cn = true by unfold skipC; rw [HGD.out]; simp)
        gi_wp2_with (first
          | (refine ⟨trivial, ?_⟩; (with_reducible refine (CallsIn.inRound l (callsIn_wide.2 (HCP.out _ HP.out HV.out))).mono ?_); rintro e_ w0' ⟨rfl, hb⟩; replace HC := Lib.hid (HC.out.below hsw hb); replace HV := Lib.hid (HV.out.kept (grown_none hb) (fun r e => by cases e)); replace HX := Lib.hid (HX.out.trans (hb.mono HX.out.size)); replace HP := Lib.hid (HP.out.kept (grown_none hb) (fun r e => by cases e)); clear hb c5 c9; have c5 := HC.out.b5.cell 0; have c9 := HC.out.b9.cell 0)
          | (refine ⟨trivial, ?_⟩; (with_reducible refine (CallsIn.inRound l (callsIn_wide.2 (HOF.out _))).mono ?_); rintro e_ w1 ⟨u0, rfl, hb, hu⟩; replace HC := Lib.hid (HC.out.below hsw hb); replace HV := Lib.hid (HV.out.kept (grown_none hb) (fun r e => by cases e)); replace HX := Lib.hid (HX.out.trans (hb.mono HX.out.size)); replace HP := Lib.hid (HP.out.kept (grown_none hb) (fun r e => by cases e)); clear hb c5 c9; have HU0 := Lib.hid (GLI.li hu); clear hu)
          | (refine ⟨trivial, ?_⟩; (with_reducible refine (CallsIn.inRound l (callsIn_wide.2 (HLE.out _ HV.out))).mono ?_); rintro e_ w2 ⟨u1, rfl, hb, hu⟩; replace HC := Lib.hid (HC.out.below hsw hb); replace HV := Lib.hid (HV.out.kept (grown_none hb) (fun r e => by cases e)); replace HX := Lib.hid (HX.out.trans (hb.mono HX.out.size)); replace HP := Lib.hid (HP.out.kept (grown_none hb) (fun r e => by cases e)); replace HU0 := Lib.hid (HU0.out.below hb); clear hb; have HU1 := Lib.hid (GLI.li hu); clear hu)
          | (refine ⟨trivial, ?_⟩; (with_reducible refine (CallsIn.inRound l (callsIn_wide.2 (HAL.out _ _ _ HU0.out HU1.out))).mono ?_); rintro e_ w3 ⟨rfl, hb⟩; replace HC := Lib.hid (HC.out.below hsw hb); replace HV := Lib.hid (HV.out.kept (grown_none hb) (fun r e => by cases e)); replace HX := Lib.hid (HX.out.trans (hb.mono HX.out.size)); replace HP := Lib.hid (HP.out.kept (grown_none hb) (fun r e => by cases e)); clear hb)
          | (refine ⟨trivial, ?_⟩; (with_reducible refine (CallsIn.inRound l (callsIn_wide.2 (HMY.out _ HV.out))).mono ?_); rintro e_ w4 ⟨rfl, hb⟩; replace HC := Lib.hid (HC.out.below hsw hb); replace HV := Lib.hid (HV.out.kept (grown_none hb) (fun r e => by cases e)); replace HX := Lib.hid (HX.out.trans (hb.mono HX.out.size)); replace HP := Lib.hid (HP.out.kept (grown_none hb) (fun r e => by cases e)); clear hb)
          | (refine ⟨trivial, ?_⟩))
        exact HSK.out _ HSC.out HX.out HC.out
      | true =>
        cases mb with
        | false =>
          have HSC := Lib.hid (show skipC (some p) cn = true by unfold skipC; rw [HGD.out]; simp)
          gi_wp2_with (first
            | (refine ⟨trivial, ?_⟩; (with_reducible refine (CallsIn.inRound l (callsIn_wide.2 (HCP.out _ HP.out HV.out))).mono ?_); rintro e_ w0' ⟨rfl, hb⟩; replace HC := Lib.hid (HC.out.below hsw hb); replace HV := Lib.hid (HV.out.kept (grown_none hb) (fun r e => by cases e)); replace HX := Lib.hid (HX.out.trans (hb.mono HX.out.size)); replace HP := Lib.hid (HP.out.kept (grown_none hb) (fun r e => by cases e)); clear hb c5 c9; have c5 := HC.out.b5.cell 0; have c9 := HC.out.b9.cell 0)
            | (refine ⟨trivial, ?_⟩; (with_reducible refine (CallsIn.inRound l (callsIn_wide.2 (HOF.out _))).mono ?_); rintro e_ w1 ⟨u0, rfl, hb, hu⟩; replace HC := Lib.hid (HC.out.below hsw hb); replace HV := Lib.hid (HV.out.kept (grown_none hb) (fun r e => by cases e)); replace HX := Lib.hid (HX.out.trans (hb.mono HX.out.size)); replace HP := Lib.hid (HP.out.kept (grown_none hb) (fun r e => by cases e)); clear hb c5 c9; have HU0 := Lib.hid (GLI.li hu); clear hu)
            | (refine ⟨trivial, ?_⟩; (with_reducible refine (CallsIn.inRound l (callsIn_wide.2 (HLE.out _ HV.out))).mono ?_); rintro e_ w2 ⟨u1, rfl, hb, hu⟩; replace HC := Lib.hid (HC.out.below hsw hb); replace HV := Lib.hid (HV.out.kept (grown_none hb) (fun r e => by cases e)); replace HX := Lib.hid (HX.out.trans (hb.mono HX.out.size)); replace HP := Lib.hid (HP.out.kept (grown_none hb) (fun r e => by cases e)); replace HU0 := Lib.hid (HU0.out.below hb); clear hb; have HU1 := Lib.hid (GLI.li hu); clear hu)
            | (refine ⟨trivial, ?_⟩; (with_reducible refine (CallsIn.inRound l (callsIn_wide.2 (HAL.out _ _ _ HU0.out HU1.out))).mono ?_); rintro e_ w3 ⟨rfl, hb⟩; replace HC := Lib.hid (HC.out.below hsw hb); replace HV := Lib.hid (HV.out.kept (grown_none hb) (fun r e => by cases e)); replace HX := Lib.hid (HX.out.trans (hb.mono HX.out.size)); replace HP := Lib.hid (HP.out.kept (grown_none hb) (fun r e => by cases e)); clear hb)
            | (refine ⟨trivial, ?_⟩; (with_reducible refine (CallsIn.inRound l (callsIn_wide.2 (HMY.out _ HV.out))).mono ?_); rintro e_ w4 ⟨rfl, hb⟩; replace HC := Lib.hid (HC.out.below hsw hb); replace HV := Lib.hid (HV.out.kept (grown_none hb) (fun r e => by cases e)); replace HX := Lib.hid (HX.out.trans (hb.mono HX.out.size)); replace HP := Lib.hid (HP.out.kept (grown_none hb) (fun r e => by cases e)); clear hb; have c5 := HC.out.b5.cell 0; have c9 := HC.out.b9.cell 0; have f9 := HC.out.b9.frozen 0)
            | (refine ⟨trivial, ?_⟩))
          exact HSK.out _ HSC.out HX.out HC.out
        | true =>
          have HGC := Lib.hid (show goodC cn = true by rw [HGD.out]; rfl)
          have HSC := Lib.hid (show skipC (some p) cn = false by unfold skipC; rw [HGC.out, decide_eq_false (fun h => HNE.out (Option.some.inj h))]; rfl)
          have HM2 := Lib.hid (HMK.out HNE.out HGC.out)
          gi_wp2_with (first
            | (refine ⟨trivial, ?_⟩; (with_reducible refine (CallsIn.inRound l (callsIn_wide.2 (HCP.out _ HP.out HV.out))).mono ?_); rintro e_ w0' ⟨rfl, hb⟩; replace HC := Lib.hid (HC.out.below hsw hb); replace HV := Lib.hid (HV.out.kept (grown_none hb) (fun r e => by cases e)); replace HX := Lib.hid (HX.out.trans (hb.mono HX.out.size)); replace HP := Lib.hid (HP.out.kept (grown_none hb) (fun r e => by cases e)); clear hb c5 c9; have c5 := HC.out.b5.cell 0; have c9 := HC.out.b9.cell 0)
            | (refine ⟨trivial, ?_⟩; (with_reducible refine (CallsIn.inRound l (callsIn_wide.2 (HOF.out _))).mono ?_); rintro e_ w1 ⟨u0, rfl, hb, hu⟩; replace HC := Lib.hid (HC.out.below hsw hb); replace HV := Lib.hid (HV.out.kept (grown_none hb) (fun r e => by cases e)); replace HX := Lib.hid (HX.out.trans (hb.mono HX.out.size)); replace HP := Lib.hid (HP.out.kept (grown_none hb) (fun r e => by cases e)); clear hb c5 c9; have HU0 := Lib.hid (GLI.li hu); clear hu)
            | (refine ⟨trivial, ?_⟩; (with_reducible refine (CallsIn.inRound l (callsIn_wide.2 (HLE.out _ HV.out))).mono ?_); rintro e_ w2 ⟨u1, rfl, hb, hu⟩; replace HC := Lib.hid (HC.out.below hsw hb); replace HV := Lib.hid (HV.out.kept (grown_none hb) (fun r e => by cases e)); replace HX := Lib.hid (HX.out.trans (hb.mono HX.out.size)); replace HP := Lib.hid (HP.out.kept (grown_none hb) (fun r e => by cases e)); replace HU0 := Lib.hid (HU0.out.below hb); clear hb; have HU1 := Lib.hid (GLI.li hu); clear hu)
            | (refine ⟨trivial, ?_⟩; (with_reducible refine (CallsIn.inRound l (callsIn_wide.2 (HAL.out _ _ _ HU0.out HU1.out))).mono ?_); rintro e_ w3 ⟨rfl, hb⟩; replace HC := Lib.hid (HC.out.below hsw hb); replace HV := Lib.hid (HV.out.kept (grown_none hb) (fun r e => by cases e)); replace HX := Lib.hid (HX.out.trans (hb.mono HX.out.size)); replace HP := Lib.hid (HP.out.kept (grown_none hb) (fun r e => by cases e)); clear hb)
            | (refine ⟨trivial, ?_⟩; (with_reducible refine (CallsIn.inRound l (callsIn_wide.2 (HMY.out _ HV.out))).mono ?_); rintro e_ w4 ⟨rfl, hb⟩; replace HC := Lib.hid (HC.out.below hsw hb); replace HV := Lib.hid (HV.out.kept (grown_none hb) (fun r e => by cases e)); replace HX := Lib.hid (HX.out.trans (hb.mono HX.out.size)); replace HP := Lib.hid (HP.out.kept (grown_none hb) (fun r e => by cases e)); clear hb; have c5 := HC.out.b5.cell 0; have c9 := HC.out.b9.cell 0; have f9 := HC.out.b9.frozen 0)
            | (refine ⟨trivial, ?_⟩; (with_reducible refine (CallsIn.inRound l (callsIn_wide.2 (HM2.out _ HP.out HV.out))).mono ?_); rintro e_ w5 ⟨A1, k1, A2, k2, A3, k3, rfl, o1, o2, o3, hb⟩; have HO := Lib.hid (And.intro (o1.lower (b' := S + 7) (Nat.le_trans HBW.out HX.out.size)) (And.intro (o2.lower (b' := S + 7) (Nat.le_trans HBW.out HX.out.size)) (o3.lower (b' := S + 7) (Nat.le_trans HBW.out HX.out.size)))); clear o1 o2 o3; replace HC := Lib.hid (HC.out.below hsw hb); replace HV := Lib.hid (HV.out.kept (grown_none hb) (fun r e => by cases e)); replace HX := Lib.hid (HX.out.trans (hb.mono HX.out.size)); replace HP := Lib.hid (HP.out.kept (grown_none hb) (fun r e => by cases e)); clear hb c5 c9 f9; have HC6 := Lib.hid (HC.out.below hsw ((Below.refl _ _).alloc (Nat.le_refl _) (.cells #[.slice A1 (ofN (p * cn)).length k1, .slice A2 (ofN 3).length k2, .slice A3 (ofN (invN 3 ((p - 1) * (cn - 1)))).length k3] 26))); have HN6 := Lib.hid (Bk.new w5 26 #[.slice A1 (ofN (p * cn)).length k1, .slice A2 (ofN 3).length k2, .slice A3 (ofN (invN 3 ((p - 1) * (cn - 1)))).length k3]); have g6 := fun i => HC6.out.b6.frozen i; have g7 := fun i => HC6.out.b7.frozen i; have g8 := fun i => HC6.out.b8.frozen i; have q0 := HC6.out.b6.cell 0; have q1 := HC6.out.b6.cell 1; have q2 := HC6.out.b6.cell 2; have y0 := HN6.out.cell 0; have y1 := HN6.out.cell 1; have y2 := HN6.out.cell 2; have q7 := HC6.out.b7.cell 0; have q8 := HC6.out.b8.cell 0)
            | (refine ⟨trivial, ?_⟩))
          have hnb : Below w5.heap.size w5 (w5.alloc (.cells #[.slice A1 (ofN (p * cn)).length k1, .slice A2 (ofN 3).length k2, .slice A3 (ofN (invN 3 ((p - 1) * (cn - 1)))).length k3] 26)) := (Below.refl _ _).alloc (Nat.le_refl _) _
          have hx6 : Below W.heap.size W (w5.alloc (.cells #[.slice A1 (ofN (p * cn)).length k1, .slice A2 (ofN 3).length k2, .slice A3 (ofN (invN 3 ((p - 1) * (cn - 1)))).length k3] 26)) := HX.out.trans (hnb.mono HX.out.size)
          have z1 : GOW .u64 40 (S + 7) (ofN (p * cn)) (.slice A1 (ofN (p * cn)).length k1) (w5.alloc (.cells #[.slice A1 (ofN (p * cn)).length k1, .slice A2 (ofN 3).length k2, .slice A3 (ofN (invN 3 ((p - 1) * (cn - 1)))).length k3] 26)) := ⟨A1, k1, rfl, HO.out.1.below hnb⟩
          have z2 : GOW .u64 40 (S + 7) (ofN 3) (.slice A2 (ofN 3).length k2) (w5.alloc (.cells #[.slice A1 (ofN (p * cn)).length k1, .slice A2 (ofN 3).length k2, .slice A3 (ofN (invN 3 ((p - 1) * (cn - 1)))).length k3] 26)) := ⟨A2, k2, rfl, HO.out.2.1.below hnb⟩
          have z3 : GOW .u64 40 (S + 7) (ofN (invN 3 ((p - 1) * (cn - 1)))) (.slice A3 (ofN (invN 3 ((p - 1) * (cn - 1)))).length k3) (w5.alloc (.cells #[.slice A1 (ofN (p * cn)).length k1, .slice A2 (ofN 3).length k2, .slice A3 (ofN (invN 3 ((p - 1) * (cn - 1)))).length k3] 26)) := ⟨A3, k3, rfl, HO.out.2.2.below hnb⟩
          have hc := HC6.out
          clear g6 g7 g8 q0 q1 q2 y0 y1 y2 q7 q8 HN6 HC6 hnb
          generalize w5.alloc (.cells #[.slice A1 (ofN (p * cn)).length k1, .slice A2 (ofN 3).length k2, .slice A3 (ofN (invN 3 ((p - 1) * (cn - 1)))).length k3] 26) = w6 at hx6 z1 z2 z3 hc ⊢
          obtain ⟨V1, hV1⟩ : ∃ V, Value.slice A1 (ofN (p * cn)).length k1 = V := ⟨_, rfl⟩
          obtain ⟨V2, hV2⟩ : ∃ V, Value.slice A2 (ofN 3).length k2 = V := ⟨_, rfl⟩
          obtain ⟨V3, hV3⟩ : ∃ V, Value.slice A3 (ofN (invN 3 ((p - 1) * (cn - 1)))).length k3 = V := ⟨_, rfl⟩
          rw [hV1] at z1
          rw [hV2] at z2
          rw [hV3] at z3
          rw [hV1, hV2, hV3]
          have hfar : ∀ k, k ≠ S + 1 → k ≠ S + 2 → k ≠ S + 3 → ((((((w6.setCell ⟨S + 1, 0, none⟩ V1).setCell ⟨S + 1, 1, none⟩ V2).setCell ⟨S + 1, 2, none⟩ V3).setCell ⟨S + 2, 0, none⟩ (.int .i64 (U : Int))).setCell ⟨S + 3, 0, none⟩ (.int .i64 0))).heap[k]? = w6.heap[k]? := fun k n1 n2 n3 =>
            (Below.heap_setCell _ ⟨S + 3, 0, none⟩ _ k n3).trans ((Below.heap_setCell _ ⟨S + 2, 0, none⟩ _ k n2).trans ((Below.heap_setCell _ ⟨S + 1, 2, none⟩ _ k n1).trans ((Below.heap_setCell _ ⟨S + 1, 1, none⟩ _ k n1).trans (Below.heap_setCell _ ⟨S + 1, 0, none⟩ _ k n1))))
          refine ⟨(((((keeps_below hx6).trans (KeepsOthers.setCell _ _ _)).trans (KeepsOthers.setCell _ _ _)).trans (KeepsOthers.setCell _ _ _)).trans (KeepsOthers.setCell _ _ _)).trans (KeepsOthers.setCell _ _ _), rfl, p, cn, i, V1, V2, V3, .slice (some ⟨gp, 0, none⟩) np cp, ?_, ?_, ?_, ?_, ?_⟩
          · rw [HDR.out, HSC.out]; rfl
          · rw [HN.out.2.2]
            refine ⟨(hfar S (by omega) (by omega) (by omega)).trans hc.b5, ?_, ?_, ?_, (hfar (S + 4) (by omega) (by omega) (by omega)).trans hc.b9, ?_⟩
            · exact ((((hc.b6.set 0 V1).set 1 V2).set 2 V3).far (by show S + 1 ≠ S + 2; omega) _).far (by show S + 1 ≠ S + 3; omega) _
            · exact (((((hc.b7.far (by show S + 2 ≠ S + 1; omega) _).far (by show S + 2 ≠ S + 1; omega) _).far (by show S + 2 ≠ S + 1; omega) _).set 0 _)).far (by show S + 2 ≠ S + 3; omega) _
            · exact ((((hc.b8.far (by show S + 3 ≠ S + 1; omega) _).far (by show S + 3 ≠ S + 1; omega) _).far (by show S + 3 ≠ S + 1; omega) _).far (by show S + 3 ≠ S + 2; omega) _).set 0 _
            · exact ((((hc.bel.setCell (p := ⟨S + 1, 0, none⟩) (by show S ≤ S + 1; omega) _).setCell (p := ⟨S + 1, 1, none⟩) (by show S ≤ S + 1; omega) _).setCell (p := ⟨S + 1, 2, none⟩) (by show S ≤ S + 1; omega) _).setCell (p := ⟨S + 2, 0, none⟩) (by show S ≤ S + 2; omega) _).setCell (p := ⟨S + 3, 0, none⟩) (by show S ≤ S + 3; omega) _
          · exact z1.here fun g o h3 _ _ => hfar g (by omega) (by omega) (by omega)
          · exact z2.here fun g o h3 _ _ => hfar g (by omega) (by omega) (by omega)
          · exact z3.here fun g o h3 _ _ => hfar g (by omega) (by omega) (by omega)
  case hdone =>
    rintro D xs W hD hlen ⟨po, vp, hpo, hC, hpl, hdr, hpp, hBW⟩ hdef
    rw [hlen, Nat.sub_self] at hdr
    have HDR := Lib.hid (show drawF (canN d ds) (ds.length / szD d) 0 none = none from hdr)
    have q0 := hC.b6.cell 0
    have q1 := hC.b6.cell 1
    have q2 := hC.b6.cell 2
    have q7 := hC.b7.cell 0
    have q8 := hC.b8.cell 0
    have g6 := fun i => hC.b6.frozen i
    have g7 := fun i => hC.b7.frozen i
    have g8 := fun i => hC.b8.frozen i
    have HC := Lib.hid hC
    have HD := Lib.hid hdef
    clear hdr hC hpo hpl hpp hlen hdef
    dsimp only
    go_wp2_with fail
    have hc := HC.out
    obtain ⟨W4, hW4⟩ : ∃ V, ((((W.setCell ⟨S + 1, 0, none⟩ (.slice none 0 0)).setCell ⟨S + 1, 1, none⟩ (.slice none 0 0)).setCell ⟨S + 1, 2, none⟩ (.slice none 0 0)).setCell ⟨S + 2, 0, none⟩ (.int .i64 0)).setCell ⟨S + 3, 0, none⟩ (.int .i64 52) = V := ⟨_, rfl⟩
    have b6 : Bk W4 (S + 1) 26 #[.slice none 0 0, .slice none 0 0, .slice none 0 0] := by rw [← hW4]; exact ((((hc.b6.set 0 _).set 1 _).set 2 _).far (by show S + 1 ≠ S + 2; omega) _).far (by show S + 1 ≠ S + 3; omega) _
    have b7 : Bk W4 (S + 2) 3 #[.int .i64 0] := by rw [← hW4]; exact (((((hc.b7.far (by show S + 2 ≠ S + 1; omega) _).far (by show S + 2 ≠ S + 1; omega) _).far (by show S + 2 ≠ S + 1; omega) _).set 0 _)).far (by show S + 2 ≠ S + 3; omega) _
    have b8 : Bk W4 (S + 3) 27 #[.int .i64 52] := by rw [← hW4]; exact ((((hc.b8.far (by show S + 3 ≠ S + 1; omega) _).far (by show S + 3 ≠ S + 1; omega) _).far (by show S + 3 ≠ S + 1; omega) _).far (by show S + 3 ≠ S + 2; omega) _).set 0 _
    have bl : Below S w W4 := by rw [← hW4]; exact ((((hc.bel.setCell (p := ⟨S + 1, 0, none⟩) (by show S ≤ S + 1; omega) _).setCell (p := ⟨S + 1, 1, none⟩) (by show S ≤ S + 1; omega) _).setCell (p := ⟨S + 1, 2, none⟩) (by show S ≤ S + 1; omega) _).setCell (p := ⟨S + 2, 0, none⟩) (by show S ≤ S + 2; omega) _).setCell (p := ⟨S + 3, 0, none⟩) (by show S ≤ S + 3; omega) _
    have bd : W4.heap[D]? = some (.deferred (some [])) := by
      rw [← hW4]
      exact (Below.heap_setCell _ ⟨S + 3, 0, none⟩ _ D (by show D ≠ S + 3; omega)).trans ((Below.heap_setCell _ ⟨S + 2, 0, none⟩ _ D (by show D ≠ S + 2; omega)).trans ((Below.heap_setCell _ ⟨S + 1, 2, none⟩ _ D (by show D ≠ S + 1; omega)).trans ((Below.heap_setCell _ ⟨S + 1, 1, none⟩ _ D (by show D ≠ S + 1; omega)).trans ((Below.heap_setCell _ ⟨S + 1, 0, none⟩ _ D (by show D ≠ S + 1; omega)).trans HD.out))))
    rw [hW4]
    have hb6 : Bk (W4.putObj D (.deferred none)) (S + 1) 26 #[.slice none 0 0, .slice none 0 0, .slice none 0 0] := (World.putObj_heap_other (by omega)).trans b6
    have hb7 : Bk (W4.putObj D (.deferred none)) (S + 2) 3 #[.int .i64 0] := (World.putObj_heap_other (by omega)).trans b7
    have hb8 : Bk (W4.putObj D (.deferred none)) (S + 3) 27 #[.int .i64 52] := (World.putObj_heap_other (by omega)).trans b8
    have hbl : Below S w (W4.putObj D (.deferred none)) := bl.grown (grownBy_putObj' W4 D _) (Nat.le_trans hsw bl.size) (fun q e => by have := Option.some.inj e; omega)
    have e0 := hb6.cell 0
    have e1 := hb6.cell 1
    have e2 := hb6.cell 2
    have e3 := hb7.cell 0
    have e4 := hb8.cell 0
    refine ⟨by simp, .inl ⟨_, _, rfl, run_takeDeferred bd, ?_⟩⟩
    refine ⟨.tuple #[.agg #[.slice none 0 0, .slice none 0 0, .slice none 0 0], .int .i64 0, .int .i64 52], ?_, .inr ⟨HDR.out, rfl, by rw [HS.out]; exact hbl⟩⟩
    simp [results, Try.results18, go_sem, Result.andThen, e0, e1, e2, e3, e4]
  case hstop =>
    rintro D cc xs W hD ⟨rfl, p, q, i, v0, v1, v2, vp, hdr, hC, g0, g1, g2⟩ hdef
    have hC2 := hC.kept hsw (grownBy_putObj' W D (.deferred none)) (fun r e => by have := Option.some.inj e; omega)
    have k0 := g0.kept (grownBy_putObj' W D (.deferred none)) (fun r e => by cases e; exact .inr ⟨_, hdef, rfl⟩)
    have k1 := g1.kept (grownBy_putObj' W D (.deferred none)) (fun r e => by cases e; exact .inr ⟨_, hdef, rfl⟩)
    have k2 := g2.kept (grownBy_putObj' W D (.deferred none)) (fun r e => by cases e; exact .inr ⟨_, hdef, rfl⟩)
    have e0 := hC2.b6.cell 0
    have e1 := hC2.b6.cell 1
    have e2 := hC2.b6.cell 2
    have e3 := hC2.b7.cell 0
    have e4 := hC2.b8.cell 0
    gi_wp2
    refine ⟨by simp, .inl ⟨_, _, rfl, run_takeDeferred hdef, ?_⟩⟩
    refine ⟨.tuple #[.agg #[v0, v1, v2], .int .i64 ((szD d * (i + 1) : Nat) : Int), .int .i64 0], ?_, .inl ⟨p, q, i, v0, v1, v2, hdr, rfl, k0.li (ofN_nn _), k1.li (ofN_nn _), k2.li (ofN_nn _), by rw [HS.out]; exact hC2.bel⟩⟩
    simp [results, Try.results18, go_sem, Result.andThen, e0, e1, e2, e3, e4]
end Go.Proofs.Ytdmglajfmfjmlaa
namespace Go.Proofs.Ytdmglajfmfjmlaa
set_option linter.unusedSimpArgs false
set_option linter.unusedVariables false
set_option maxRecDepth 100000
open Go.RowKit Go.Proofs.YtdmglajfmfjmlaaW.PrintWords Go.Proofs.YtdmglajfmfjmlaaW.PrintLast Go.Proofs.YtdmglajfmfjmlaaW.PrintMore
attribute [local go_sem] toldUpon_value toldUpon_skip toldUpon_enter
theorem pr_251 : IsPrime 251 := prime_trial (k := 5) (by decide) (by decide) (by decide +kernel)
theorem pr_257 : IsPrime 257 := prime_trial (k := 5) (by decide) (by decide) (by decide +kernel)
theorem mk_small : makeR 251 257 17 = ((ofN 64507, ofN 17, ofN 26353), 0) := makeR_two pr_251 pr_257 (by decide) (by decide +kernel) (by decide +kernel) (by decide) (by decide) (by decide +kernel) (by decide +kernel) (by decide +kernel) (by decide +kernel) (by decide +kernel)
theorem mk_same : makeR 251 251 17 = (([], [], []), 50) := if_neg (fun h => h.2.2.1 rfl)
theorem make_li {w : World} {v0 v1 : Value} {x y e : Nat} {N E D : List Int} {r : Int} (h0 : LI .u64 w v0 (ofN x)) (h1 : LI .u64 w v1 (ofN y)) (hx : okN 64 (ofN x)) (hy : okN 64 (ofN y)) (he : e < 18446744073709551616) (hf : makeR x y e = ((N, E, D), r)) (n0 : ∀ z ∈ N, 0 ≤ z) (n1 : ∀ z ∈ E, 0 ≤ z) (n2 : ∀ z ∈ D, 0 ≤ z) :
    Calls Try.prog 47 #[v0, v1, .int .u64 (e : Int)] w fun e_ w' => ∃ A1 c1 A2 c2 A3 c3, e_ = .returned (.tuple #[.agg #[.slice A1 N.length c1, .slice A2 E.length c2, .slice A3 D.length c3], .int .i64 r]) ∧
      LI .u64 w' (.slice A1 N.length c1) N ∧ LI .u64 w' (.slice A2 E.length c2) E ∧ LI .u64 w' (.slice A3 D.length c3) D ∧ Below w.heap.size w w' := by
  refine (make_lo (N := N) (E := E) (D := D) (r := r) h0 h1 hx hy he (by rw [nI_ofN, nI_ofN]; exact hf)).mono ?_
  rintro e_ w' ⟨A1, c1, A2, c2, A3, c3, rfl, o1, o2, o3, hb⟩
  exact ⟨A1, c1, A2, c2, A3, c3, rfl, LI.of_Rdl o1.rd n0, LI.of_Rdl o2.rd n1, LI.of_Rdl o3.rd n2, hb⟩
theorem sgn_small : signR 64507 17 26353 [] = ([], 51) := by decide +kernel
set_option maxHeartbeats 4000000 in
theorem alive5_any (w : World) : Calls Try.prog 11 #[] w fun e w' => e = .returned (.bool true) ∧ Below w.heap.size w w' := by
  have o251 := of_li 251 (by omega)
  have o257 := of_li 257 (by omega)
  have oA := of_li 64507 (by omega)
  have oB := of_li 26353 (by omega)
  simp only [show ((251 : Nat) : Int) = 251 from rfl, show ((257 : Nat) : Int) = 257 from rfl, show ((64507 : Nat) : Int) = 64507 from rfl, show ((26353 : Nat) : Int) = 26353 from rfl] at o251 o257 oA oB
  have lf : ∀ a : Nat, a < 18446744073709551616 → okN 64 (ofN a) := fun a h => okN_ofN (Nat.le_trans (ln_small h) (by omega))
  have k1 := lf 64507 (by omega)
  have k2 := lf 17 (by omega)
  have k3 := lf 26353 (by omega)
  have hm := fun (w : World) v0 v1 (h0 : LI .u64 w v0 (ofN 251)) (h1 : LI .u64 w v1 (ofN 257)) => make_li (e := 17) h0 h1 (lf 251 (by omega)) (lf 257 (by omega)) (by omega) mk_small (ofN_nn _) (ofN_nn _) (ofN_nn _)
  have hm2 := fun (w : World) v0 v1 (h0 : LI .u64 w v0 (ofN 251)) (h1 : LI .u64 w v1 (ofN 251)) => make_li (e := 17) h0 h1 (lf 251 (by omega)) (lf 251 (by omega)) (by omega) mk_same (by simp) (by simp) (by simp)
  have hs := fun (w : World) v0 v1 v2 (h0 : LI .u64 w v0 (ofN 64507)) (h1 : LI .u64 w v1 (ofN 17)) (h2 : LI .u64 w v2 (ofN 26353)) => sign_li h0 h1 h2 (LI.nil .u8 w) k1 k2 k3 (by decide) (by decide) (S := []) (r := 51) (by rw [nI_ofN, nI_ofN, nI_ofN]; exact sgn_small)
  have hz := fun (w : World) v0 v1 v2 (h0 : LI .u64 w v0 (ofN 64507)) (h1 : LI .u64 w v1 (ofN 17)) (h2 : LI .u64 w v2 (ofN 26353)) => size_li h0 h1 h2 k1
  rw [nI_ofN, show szN 64507 = 2 by decide +kernel, show ((2 : Nat) : Int) = 2 from rfl] at hz
  have hc1 := fun (w : World) v0 v1 (h0 : LI .u64 w v0 (ofN 64507)) (h1 : LI .u64 w v1 (ofN 64507)) => cmp_li h0 h1 (k1.le (by omega)) (k1.le (by omega))
  have hc2 := fun (w : World) v0 v1 (h0 : LI .u64 w v0 (ofN 26353)) (h1 : LI .u64 w v1 (ofN 26353)) => cmp_li h0 h1 (k3.le (by omega)) (k3.le (by omega))
  rw [nI_ofN, show cmpN 64507 64507 = 0 by decide] at hc1
  rw [nI_ofN, show cmpN 26353 26353 = 0 by decide] at hc2
  simp only [show ((17 : Nat) : Int) = 17 from rfl] at hm hm2
  clear lf k1 k2 k3
  simp only [List.length_nil] at hm2
  generalize ofN 251 = L1 at *
  generalize ofN 257 = L2 at *
  generalize ofN 64507 = L3 at *
  generalize ofN 17 = L4 at *
  generalize ofN 26353 = L5 at *
  obtain ⟨n3, hn3⟩ : ∃ n, L3.length = n := ⟨_, rfl⟩
  obtain ⟨n4, hn4⟩ : ∃ n, L4.length = n := ⟨_, rfl⟩
  obtain ⟨n5, hn5⟩ : ∃ n, L5.length = n := ⟨_, rfl⟩
  simp only [hn3, hn4, hn5] at hm
  clear hn3 hn4 hn5
  go_enter Try.func11, Try.ntmps11
  go_upto_region 2 with (first
    | (go_at_call 22; refine (o251 _).mono ?_; rintro e w1 ⟨u1, rfl, hb1, r1⟩)
    | (go_at_call 22; refine (o257 _).mono ?_; rintro e w2 ⟨u2, rfl, hb2, r2⟩)
    | (go_at_call 47; refine (hm _ _ _ (LI.below r1 hb2) r2).mono ?_; rintro e w3 ⟨B1, d1, B2, d2, B3, d3, rfl, q1, q2, q3, hb3⟩))
  have h13 := hb1.trans ((hb2.mono hb1.size).trans (hb3.mono (Nat.le_trans hb1.size hb2.size)))
  obtain ⟨g, hg⟩ : ∃ g, w3.heap.size = g := ⟨_, rfl⟩
  obtain ⟨wa, hwa⟩ : ∃ z, w3.alloc (.cells #[.slice B1 n3 d1, .slice B2 n4 d2, .slice B3 n5 d3] 26) = z := ⟨_, rfl⟩
  have hbk : Bk wa g 26 #[.slice B1 n3 d1, .slice B2 n4 d2, .slice B3 n5 d3] := by rw [← hwa, ← hg]; exact Bk.new w3 _ _
  have hba : Below w3.heap.size w3 wa := by rw [← hwa]; exact (Below.refl _ _).alloc (Nat.le_refl _) _
  rw [hwa, hg]
  have HB := Lib.hid (h13.trans (hba.mono h13.size))
  have HK := Lib.hid (And.intro (q1.below hba) (And.intro (q2.below hba) (q3.below hba)))
  have HBK := Lib.hid hbk
  have HG := Lib.hid hbk.lt
  have c0 := hbk.cell 0
  have c1 := hbk.cell 1
  have c2 := hbk.cell 2
  clear hwa hg hb1 hb2 hb3 r1 r2 q1 q2 q3 h13 hba hbk hm o257
  go_upto_region 3 with (go_at_call 13; refine (hs _ _ _ _ HK.out.1 HK.out.2.1 HK.out.2.2).mono ?_; rintro e w4 ⟨A, c, rfl, ho, hb4⟩)
  clear ho c0 c1 c2 hs
  have o251b := o251
  go_upto_region 4 with (first
    | (go_at_call 22; refine (o251b _).mono ?_; rintro e w5 ⟨u1, rfl, hb5, r1⟩; have HR1 := Lib.hid r1; clear r1 o251b)
    | (go_at_call 22; refine (o251 _).mono ?_; rintro e w6 ⟨u2, rfl, hb6, r2⟩)
    | (go_at_call 47; refine (hm2 _ _ _ (LI.below HR1.out hb6) r2).mono ?_; rintro e w7 ⟨C1, e1, C2, e2, C3, e3, rfl, q1, q2, q3, hb7⟩))
  clear q1 q2 q3 r2 HR1
  obtain ⟨w8, hw8⟩ : ∃ z, w7.alloc (.cells #[.slice C1 0 e1, .slice C2 0 e2, .slice C3 0 e3] 26) = z := ⟨_, rfl⟩
  have hb8 : Below w7.heap.size w7 w8 := by rw [← hw8]; exact (Below.refl _ _).alloc (Nat.le_refl _) _
  obtain ⟨g2, hg2⟩ : ∃ g, w7.heap.size = g := ⟨_, rfl⟩
  rw [hw8, hg2]
  have b5 := hb4.trans (hb5.mono hb4.size)
  have b6 := b5.trans (hb6.mono b5.size)
  have b7 := b6.trans (hb7.mono b6.size)
  have b8 := b7.trans (hb8.mono b7.size)
  have HB8 := Lib.hid (HB.out.trans (b8.mono HB.out.size))
  have hK0 := HK.out.1.below b8
  have hK1 := HK.out.2.1.below b8
  have hK2 := HK.out.2.2.below b8
  have hBK := HBK.out.below b8 HG.out
  have hG := Nat.lt_of_lt_of_le HG.out b8.size
  clear hw8 hg2 hb4 hb5 hb6 hb7 hb8 b5 b6 b7 b8 HB HK HBK HG hm2 o251
  have z0 := fun w' (h : Below w8.heap.size w8 w') => (hBK.below h hG).cell 0
  have z1 := fun w' (h : Below w8.heap.size w8 w') => (hBK.below h hG).cell 1
  have z2 := fun w' (h : Below w8.heap.size w8 w') => (hBK.below h hG).cell 2
  have OA := Lib.hid oA
  have OB := Lib.hid oB
  have HC1 := Lib.hid hc1
  have HC2 := Lib.hid hc2
  have HZ := Lib.hid hz
  clear oA oB hc1 hc2 hz
  (refine region_told _ (by kernel_rfl) (by kernel_rfl) (by simp only [putAll, Act.put, List.setIfInBounds_toArray, List.set_cons_zero, List.set_cons_succ, Nat.reduceAdd]; rfl) ?_)
  repeat (refine told_step (fun v _ => v = _) (Stays.eq _) (by intro y w' hw' hd; simp only [depsOf, updG, Region.binds, Nat.reduceAdd, Nat.reduceEqDiff, if_false, if_true, and_true, true_and, forall_const, Array.toList, GTrue] at hd; (try go_split_ands); unfold toldAt; go_simp; exact ⟨Below.refl _ _, rfl⟩) ?_)
  (refine told_step (GLI .u64 L3) ( GLI.stays _ _) (by intro y w' hw' hd; simp only [depsOf, updG, Region.binds, Nat.reduceAdd, Nat.reduceEqDiff, if_false, if_true, and_true, true_and, forall_const, Array.toList, GTrue] at hd; (try go_split_ands); unfold toldAt; go_simp; refine ⟨Below.refl _ _, ?_⟩;  exact OA.out _) ?_)
  (refine told_step (fun v _ => v = .int .i64 0) ( Stays.eq _) (by intro y w' hw' hd; simp only [depsOf, updG, Region.binds, Nat.reduceAdd, Nat.reduceEqDiff, if_false, if_true, and_true, true_and, forall_const, Array.toList, GTrue] at hd;  obtain ⟨h4, h5, h6⟩ := hd; (try go_split_ands); unfold toldAt; go_simp; refine ⟨Below.refl _ _, ?_⟩; exact HC1.out _ _ _ (hK0.below hw') h5) ?_)
  repeat (refine told_step (fun v _ => v = _) (Stays.eq _) (by intro y w' hw' hd; simp only [depsOf, updG, Region.binds, Nat.reduceAdd, Nat.reduceEqDiff, if_false, if_true, and_true, true_and, forall_const, Array.toList, GTrue] at hd; (try go_split_ands); unfold toldAt; go_simp; exact ⟨Below.refl _ _, rfl⟩) ?_)
  (refine told_step (GLI .u64 L5) ( GLI.stays _ _) (by intro y w' hw' hd; simp only [depsOf, updG, Region.binds, Nat.reduceAdd, Nat.reduceEqDiff, if_false, if_true, and_true, true_and, forall_const, Array.toList, GTrue] at hd; (try go_split_ands); unfold toldAt; go_simp; refine ⟨Below.refl _ _, ?_⟩;  exact OB.out _) ?_)
  (refine told_step (fun v _ => v = .int .i64 0) ( Stays.eq _) (by intro y w' hw' hd; simp only [depsOf, updG, Region.binds, Nat.reduceAdd, Nat.reduceEqDiff, if_false, if_true, and_true, true_and, forall_const, Array.toList, GTrue] at hd;  obtain ⟨h4, h5, h6⟩ := hd; (try go_split_ands); unfold toldAt; go_simp; refine ⟨Below.refl _ _, ?_⟩; exact HC2.out _ _ _ (hK2.below hw') h5) ?_)
  repeat (refine told_step (fun v _ => v = _) (Stays.eq _) (by intro y w' hw' hd; simp only [depsOf, updG, Region.binds, Nat.reduceAdd, Nat.reduceEqDiff, if_false, if_true, and_true, true_and, forall_const, Array.toList, GTrue] at hd; (try go_split_ands); unfold toldAt; go_simp; exact ⟨Below.refl _ _, rfl⟩) ?_)
  (refine told_step (fun v _ => v = _) (Stays.eq _) (by intro y w' hw' hd; simp only [depsOf, updG, Region.binds, Nat.reduceAdd, Nat.reduceEqDiff, if_false, if_true, and_true, true_and, forall_const, Array.toList, GTrue] at hd; (try go_split_ands); unfold toldAt; go_simp; refine ⟨Below.refl _ _, ?_⟩; exact HZ.out _ _ _ _ (hK0.below hw') (hK1.below hw') (hK2.below hw')) ?_)
  repeat (refine told_step (fun v _ => v = _) (Stays.eq _) (by intro y w' hw' hd; simp only [depsOf, updG, Region.binds, Nat.reduceAdd, Nat.reduceEqDiff, if_false, if_true, and_true, true_and, forall_const, Array.toList, GTrue] at hd; (try go_split_ands); unfold toldAt; go_simp; exact ⟨Below.refl _ _, rfl⟩) ?_)

  (refine told_nil ?_; intro y w' hw' hd; replace hd := hd 29 (by decide); simp only [updG, Nat.reduceAdd, Nat.reduceEqDiff, if_false, if_true] at hd)
  have H29 : y 29 = .bool true := hd
  go_wp2_with fail
  go_ret
  exact ⟨congrArg Ending.returned H29, HB8.out.trans (hw'.mono HB8.out.size)⟩
end Go.Proofs.Ytdmglajfmfjmlaa
namespace Go.Proofs.Ytdmglajfmfjmlaa
set_option linter.unusedSimpArgs false
set_option linter.unusedVariables false
set_option maxRecDepth 100000
open Go.RowKit Go.Proofs.YtdmglajfmfjmlaaW.PrintWords Go.Proofs.YtdmglajfmfjmlaaW.PrintLast Go.Proofs.YtdmglajfmfjmlaaW.PrintMore
attribute [local go_sem] toldUpon_value toldUpon_skip toldUpon_enter
theorem and1_any (x : Int) : Go.bits .and .i64 x 1 = x % 2 := by
  have e : Go.bits .and .i64 x 1 = IntKind.i64.wrap (((BitVec.ofInt 64 x &&& BitVec.ofInt 64 (1 : Int)).toNat : Nat) : Int) := rfl
  have h2 : (BitVec.ofInt 64 (1 : Int)).toNat = 2 ^ 1 - 1 := by decide
  have h3 : ((2 ^ 64 : Nat) : Int) = 18446744073709551616 := rfl
  rw [e, BitVec.toNat_and, h2, Nat.and_two_pow_sub_one_eq_mod, BitVec.toNat_ofInt, h3, IntKind.wrap_i64]
  omega
theorem draw_bad (w : World) {v : Value} {b : Int} (h : b % 2 = 1 ∨ b < 16) : Calls Try.prog 18 #[v, .int .i64 b, .int .u64 3] w fun e w' => e = .returned (.tuple #[.agg #[.slice none 0 0, .slice none 0 0, .slice none 0 0], .int .i64 0, .int .i64 1]) ∧ Below w.heap.size w w' := by
  refine (callsIn_wide (n := 7)).1 (callsIn_of_wp_marks Try.func18 rfl trivial ?_ rfl)
  simp only [Try.ntmps18, List.size_toArray, List.length_cons, List.length_nil, Nat.reduceAdd, Nat.reduceSub, Array.replicate_succ, Array.replicate_zero, List.push_toArray, List.append_toArray, List.nil_append, List.cons_append]
  refine wpIn_wide.2 ?_
  have t1 := and1_any b
  have hm : b % 2 = 0 ∨ b % 2 = 1 := by omega
  rcases hm with hm | hm
  · rw [hm] at t1
    have t2 : b < 16 := by omega
    clear hm h
    go_wp2_with fail
    refine ⟨.tuple #[.agg #[.slice none 0 0, .slice none 0 0, .slice none 0 0], .int .i64 0, .int .i64 1], ?_, rfl, ?_⟩
    · simp [results, Try.results18, go_sem, Result.andThen]
    · (repeat (first | (with_reducible exact Below.refl _ _) | (with_reducible assumption) | (with_reducible refine Below.drew ?_) | (with_reducible refine below_drewN ?_ _) | ((with_reducible refine Below.setCell ?_ (p := ⟨_, _, _⟩) ?_ _); rotate_left; (simp <;> omega)) | ((with_reducible refine Below.alloc ?_ ?_ _); rotate_left; (simp <;> omega)) | ((with_reducible refine Below.trans ?_ (Below.mono (by with_reducible assumption) ?_)); rotate_left; (simp <;> omega))))
  · rw [hm] at t1
    clear hm h
    go_wp2_with fail
    refine ⟨.tuple #[.agg #[.slice none 0 0, .slice none 0 0, .slice none 0 0], .int .i64 0, .int .i64 1], ?_, rfl, ?_⟩
    · simp [results, Try.results18, go_sem, Result.andThen]
    · (repeat (first | (with_reducible exact Below.refl _ _) | (with_reducible assumption) | (with_reducible refine Below.drew ?_) | (with_reducible refine below_drewN ?_ _) | ((with_reducible refine Below.setCell ?_ (p := ⟨_, _, _⟩) ?_ _); rotate_left; (simp <;> omega)) | ((with_reducible refine Below.alloc ?_ ?_ _); rotate_left; (simp <;> omega)) | ((with_reducible refine Below.trans ?_ (Below.mono (by with_reducible assumption) ?_)); rotate_left; (simp <;> omega))))
theorem same_li {w : World} {v0 v1 : Value} {a b : List Int} (h0 : LI .u64 w v0 a) (h1 : LI .u64 w v1 b) : Calls Try.prog 23 #[v0, v1] w (PBO (decide (a = b)) w) := by
  obtain ⟨A0, c0, rfl, h0, k0⟩ := h0
  obtain ⟨A1, c1, rfl, h1, k1⟩ := h1
  refine (same_giv h0 k0 h1 k1 rfl).mono ?_
  rintro e w' ⟨rfl, hd⟩
  obtain ⟨n, rfl⟩ := hd.out
  exact ⟨rfl, below_drewN (Below.refl _ _) n⟩
theorem drawF_used {d : Nat} {ds : List Nat} {p q i : Nat} (hd : 1 ≤ d) (h : drawF (canN d ds) (ds.length / szD d) 0 none = some (p, q, i)) :
    szD d * (i + 1) ≤ ds.length ∧ drawF (canN d (ds.take (szD d * (i + 1)))) ((ds.take (szD d * (i + 1))).length / szD d) 0 none = some (p, q, i) := by
  have hs : 1 ≤ szD d := by unfold szD; omega
  have hf := drawF_fnd _ _ 0 none (ds.length / szD d) p q i (by omega) (fun x hx => by cases hx) h
  have hle : szD d * (i + 1) ≤ ds.length := by
    have := Nat.mul_le_mul_left (szD d) (show i + 1 ≤ ds.length / szD d from hf.lt)
    exact Nat.le_trans this (Nat.mul_div_le _ _)
  refine ⟨hle, ?_⟩
  rw [List.length_take, Nat.min_eq_left hle, Nat.mul_div_cancel_left _ (by omega)]
  have hsame : ∀ j, j < i + 1 → canN d (ds.take (szD d * (i + 1))) j = canN d ds j := fun j hj => by
    unfold canN pieceN
    congr 3
    rw [List.drop_take, List.take_take]
    congr 1
    have : szD d * (j + 1) ≤ szD d * (i + 1) := Nat.mul_le_mul_left _ hj
    have : szD d * (j + 1) = szD d * j + szD d := Nat.mul_succ _ _
    omega
  rcases drawF_more hsame (i + 1) 0 (ds.length / szD d) none (by omega) hf.lt with h1 | ⟨_, h1⟩
  · rw [h1]; exact h
  · have := h1 p q i h; omega
structure DK (d N D : Nat) : Prop where
  undo : ∀ r, r < N → powM (powM r 3 N) D N = r
  key : keyR N 3 D = 0
  bl : blen N = 2 * d
  big : 36864 ≤ N
  lN : ln N ≤ 1
  lD : ln D ≤ 1
theorem dk_of {d : Nat} {ds : List Nat} {p q i : Nat} (h1 : 8 ≤ d) (h2 : d ≤ 32) (h8 : ∀ x ∈ ds, x < 256) (h : drawF (canN d ds) (ds.length / szD d) 0 none = some (p, q, i)) : DK d (p * q) (invN 3 ((p - 1) * (q - 1))) := by
  have hs : 1 ≤ szD d := by unfold szD; omega
  have hf := drawF_fnd _ _ 0 none (ds.length / szD d) p q i (by omega) (fun x hx => by cases hx) h
  have hle : ∀ j, j ≤ i → szD d * (j + 1) ≤ ds.length := fun j hj => by
    have := Nat.mul_le_mul_left (szD d) (show j + 1 ≤ ds.length / szD d by have := hf.lt; omega)
    exact Nat.le_trans this (Nat.mul_div_le _ _)
  obtain ⟨j, hj, hp⟩ := hf.hp
  have bp : Btw d p := by rw [hp]; exact canN_btw h1 h2 h8 (hle j (by omega))
  have bq : Btw d q := by rw [hf.hq]; exact canN_btw h1 h2 h8 (hle i (Nat.le_refl _))
  obtain ⟨_, hb, D0, D1, pp, pq, hk, p1, q1, p2, q2⟩ := draw_make h1 h2 bp bq hf.gp hf.gq hf.ne
  have hN : p * q < 18446744073709551616 := by
    have := Nat.mul_lt_mul'' p2 q2
    omega
  have hlt : (p - 1) * (q - 1) ≤ p * q := Nat.mul_le_mul (by omega) (by omega)
  exact ⟨fun r hr => by
      unfold powM
      rw [← Nat.pow_mod, ← Nat.pow_mul, rsa pp pq hf.ne D1 r, Nat.mod_eq_of_lt hr], hk, hb, Nat.mul_le_mul p1 q1, ln_small hN, ln_small (by omega)⟩
end Go.Proofs.Ytdmglajfmfjmlaa
namespace Go.Proofs.Ytdmglajfmfjmlaa
set_option linter.unusedSimpArgs false
set_option linter.unusedVariables false
set_option maxRecDepth 100000
open Go.RowKit Go.Proofs.YtdmglajfmfjmlaaW.PrintWords Go.Proofs.YtdmglajfmfjmlaaW.PrintLast Go.Proofs.YtdmglajfmfjmlaaW.PrintMore
attribute [local go_sem] toldUpon_value toldUpon_skip toldUpon_enter
set_option maxRecDepth 100000 in
set_option maxHeartbeats 4000000 in
theorem drawn_none (A : Option Addr) (n c : Nat) (b : Int) (w : World) (g1 : n ≤ 400) (g2 : b ≤ 64) {z : Int} (hz : z ≠ 0) (h : Calls Try.prog 18 #[.slice A n c, .int .i64 b, .int .u64 3] w fun e w' => e = .returned (.tuple #[.agg #[.slice none 0 0, .slice none 0 0, .slice none 0 0], .int .i64 0, .int .i64 z]) ∧ Below w.heap.size w w') :
    Calls Try.prog 4 #[.slice A n c, .int .i64 b] w fun e w' => e = .returned (.bool true) ∧ Below w.heap.size w w' := by
  have t1 : ¬ (400 : Int) < (n : Int) := by omega
  have t2 : ¬ (64 : Int) < b := by omega
  have tz : (z != 0) = true := by simpa using hz
  have H := Lib.hid h
  clear h hz g1 g2
  go_enter Try.func4, Try.ntmps4
  go_upto_region 4 with ((with_reducible refine H.out.mono ?_); rintro e w1 ⟨rfl, hb1⟩)
  have HK := Lib.hid (KB.new (t := 26) (LI.nil .u64 w1) (LI.nil .u64 w1) (LI.nil .u64 w1))
  have HB := Lib.hid (hb1.trans (HK.out.bel.mono hb1.size))
  generalize w1.alloc (.cells #[.slice none 0 0, .slice none 0 0, .slice none 0 0] 26) = w2 at HK HB ⊢
  generalize w1.heap.size = g at HK ⊢
  clear hb1
  go_wp2_with (go_at_call 11; refine (alive5_any _).mono ?_; rintro e w3 ⟨rfl, hb3⟩; have z0 := (HK.out.below hb3).c0; have HB3 := Lib.hid (HB.out.trans (hb3.mono HB.out.size)); clear hb3)
  go_ret
  exact ⟨rfl, HB3.out⟩
set_option maxRecDepth 100000 in
set_option maxHeartbeats 8000000 in
theorem walk_PkeyDrawn (A : Option Addr) (n c : Nat) (ds : List Nat) (b : Int) (w : World) (hrd : Rd .u8 w A n c ds) (b8 : B8 ds) (hA : ∀ ad, A = some ad → ad.block < w.heap.size) (_y : n * 1 ≤ 140737488351232) (_hb : (Lit.int .i64 b).wf = true) :
    Calls Try.prog 4 #[.slice A n c, .int .i64 b] w fun e w' => e = .returned (.bool true) ∧ Below w.heap.size w w' := by
  by_cases g1 : (400 : Int) < (n : Int)
  · go_enter Try.func4, Try.ntmps4
    go_wp2_with (go_at_call 11; refine (alive5_any _).mono ?_; rintro e w1 ⟨rfl, hb1⟩)
    go_ret
    exact ⟨rfl, hb1⟩
  by_cases g2 : (64 : Int) < b
  · go_enter Try.func4, Try.ntmps4
    go_wp2_with (go_at_call 11; refine (alive5_any _).mono ?_; rintro e w1 ⟨rfl, hb1⟩)
    go_ret
    exact ⟨rfl, hb1⟩
  have hl := hrd.len
  by_cases hbad : b % 2 = 1 ∨ b < 16
  · exact drawn_none A n c b w (by omega) (by omega) (z := 1) (by omega) (draw_bad w hbad)
  obtain ⟨d, hd⟩ : ∃ d : Nat, ((2 * d : Nat) : Int) = b := ⟨(b / 2).toNat, by omega⟩
  have h1 : 8 ≤ d := by omega
  have h2 : d ≤ 32 := by omega
  subst hl
  have h8 : ∀ x ∈ ds, x < 256 := b8
  have hdr := draw_any w h1 h2 (by omega) h8 hrd hA
  rw [hd] at hdr
  cases hf : drawF (canN d ds) (ds.length / szD d) 0 none with
  | none =>
    refine drawn_none A _ c b w (by omega) (by omega) (z := 52) (by omega) (hdr.mono ?_)
    rintro e w' (⟨p, q, i, v0, v1, v2, h, _⟩ | ⟨_, h3, h4⟩)
    · rw [hf] at h; cases h
    · exact ⟨h3, h4⟩
  | some r =>
    obtain ⟨p, q, i⟩ := r
    have hk := dk_of h1 h2 h8 hf
    obtain ⟨hle, hf2⟩ := drawF_used (by omega) hf
    have H1 := Lib.hid (hdr.mono (R' := fun e w' => ∃ v0 v1 v2, e = .returned (.tuple #[.agg #[v0, v1, v2], .int .i64 ((szD d * (i + 1) : Nat) : Int), .int .i64 0]) ∧ LI .u64 w' v0 (ofN (p * q)) ∧ LI .u64 w' v1 (ofN 3) ∧ LI .u64 w' v2 (ofN (invN 3 ((p - 1) * (q - 1)))) ∧ Below w.heap.size w w') (by
      rintro e w' (⟨p', q', i', v0, v1, v2, h, h3⟩ | ⟨h, _⟩)
      · rw [hf] at h
        cases h
        exact ⟨v0, v1, v2, h3⟩
      · rw [hf] at h; cases h))
    have hs : 1 ≤ szD d := by unfold szD; omega
    obtain ⟨U, hU⟩ : ∃ U, szD d * (i + 1) = U := ⟨_, rfl⟩
    have hU1 : 1 ≤ U := by rw [← hU]; exact Nat.mul_le_mul hs (by omega : 1 ≤ i + 1)
    have H2 := Lib.hid (fun w' (hb : Below w.heap.size w w') => (draw_any (d := d) (ds := ds.take (szD d * (i + 1))) w' (A := A) (c := c) h1 h2 (by rw [List.length_take]; omega) (fun x hx => h8 x (List.mem_of_mem_take hx)) (by
        have := (hrd.below hb).take (m := szD d * (i + 1)) hle
        rwa [List.length_take, Nat.min_eq_left hle]) (fun ad h => Nat.lt_of_lt_of_le (hA ad h) hb.size)).mono (R' := fun e w'' => ∃ v0 v1 v2, e = .returned (.tuple #[.agg #[v0, v1, v2], .int .i64 ((szD d * (i + 1) : Nat) : Int), .int .i64 0]) ∧ LI .u64 w'' v0 (ofN (p * q)) ∧ LI .u64 w'' v1 (ofN 3) ∧ LI .u64 w'' v2 (ofN (invN 3 ((p - 1) * (q - 1)))) ∧ Below w'.heap.size w' w'') (by
      rintro e w'' (⟨p', q', i', v0, v1, v2, h, h3⟩ | ⟨h, _⟩)
      · rw [hf2] at h
        cases h
        exact ⟨v0, v1, v2, h3⟩
      · rw [hf2] at h; cases h))
    rw [List.length_take, Nat.min_eq_left hle, hd] at H2
    rw [hU] at H1 H2 hle
    generalize invN 3 ((p - 1) * (q - 1)) = D at H1 H2 hk
    generalize p * q = N at H1 H2 hk
    have oN : okN 64 (ofN N) := okN_ofN (Nat.le_trans hk.lN (by omega))
    have oD : okN 64 (ofN D) := okN_ofN (Nat.le_trans hk.lD (by omega))
    have o3 : okN 64 (ofN 3) := okN_ofN (Nat.le_trans (ln_small (by omega)) (by omega))
    have HRC := Lib.hid (show ds.length ≤ c from hrd.cap)
    have HLU := Lib.hid hle
    have N0 : N ≠ 0 := by have := hk.big; omega
    have HBI := Lib.hid (fun w' v (h : LI .u64 w' v (ofN N)) => bits_li h (oN.le (by omega)))
    rw [nI_ofN, hk.bl, hd] at HBI
    have HRI := Lib.hid (fun w' v0 v1 v2 (x0 : LI .u64 w' v0 (ofN N)) (x1 : LI .u64 w' v1 (ofN 3)) (x2 : LI .u64 w' v2 (ofN D)) => right_li x0 x1 x2 oN o3 oD)
    rw [nI_ofN, nI_ofN, nI_ofN, hk.key] at HRI
    have HDK := Lib.hid hk
    have HHD := Lib.hid hd
    clear hdr hf hf2 hk hrd b8 hA h8 oN oD o3 hU hd hbad h1 h2
    generalize ds.length = n at *
    have t1 : ¬ (400 : Int) < (n : Int) := g1
    have t3 : decide ((U : Int) < 1) = false := by simp; omega
    have t4 : decide ((n : Int) < (U : Int)) = false := by simp; omega
    have t6 : decide (n < U) = false := by simp; omega
    have t7 : ¬ n < U := by omega
    go_enter Try.func4, Try.ntmps4
    go_upto_region 4 with ((with_reducible refine H1.out.mono ?_); rintro e w1 ⟨v0, v1, v2, rfl, x0, x1, x2, hb1⟩; obtain ⟨B0, d0, rfl, x0⟩ := x0.form; obtain ⟨B1, d1, rfl, x1⟩ := x1.form; obtain ⟨B2, d2, rfl, x2⟩ := x2.form)
    have HK := Lib.hid (KB.new (t := 26) x0 x1 x2)
    have HB := Lib.hid (hb1.trans (HK.out.bel.mono hb1.size))
    generalize w1.alloc (.cells #[.slice B0 (ofN N).length d0, .slice B1 (ofN 3).length d1, .slice B2 (ofN D).length d2] 26) = w2 at HK HB ⊢
    generalize w1.heap.size = g at HK ⊢
    have c0 := HK.out.c0
    have c1 := HK.out.c1
    have c2 := HK.out.c2
    clear x0 x1 x2 hb1 H1
    clear hle
    go_upto_region 8 with (first
      | (go_at_call 19; (with_reducible refine (HBI.out _ _ HK.out.h0).mono ?_); rintro e w3 ⟨rfl, hb⟩; replace HK := Lib.hid (HK.out.below hb); replace HB := Lib.hid (HB.out.trans (hb.mono HB.out.size)); clear hb c0 c1 c2; have c0 := HK.out.c0; have c1 := HK.out.c1; have c2 := HK.out.c2)
      | (go_at_call 20; (with_reducible refine (HRI.out _ _ _ _ HK.out.h0 HK.out.h1 HK.out.h2).mono ?_); rintro e w4 ⟨rfl, hb⟩; replace HK := Lib.hid (HK.out.below hb); replace HB := Lib.hid (HB.out.trans (hb.mono HB.out.size)); clear hb c0 c1 c2; have c0 := HK.out.c0; have c1 := HK.out.c1; have c2 := HK.out.c2))
    go_wp2_with fail
    have HK4 := Lib.hid HK.out
    have hs4 := HB.out.size
    have lf : ∀ x, x ≤ N → okN 64 (ofN x) := fun x hx => okN_ofN (Nat.le_trans (ln_mono hx) (Nat.le_trans HDK.out.lN (by omega)))
    have LF := Lib.hid lf
    have H36 := Lib.hid HDK.out.big
    clear c0 c1 c2 lf
    go_loopw [8] (fun x wr => ∃ k : Nat, 2 ≤ k ∧ k ≤ 6 ∧ x = .int .u64 (k : Int) ∧ Below w4.heap.size w4 wr) (fun x _ => 6 - (intOf x).toNat)
    case atStart => exact ⟨2, by omega, by omega, rfl, Below.refl _ _⟩
    case round =>
      obtain ⟨k, k2, k6, rfl, hbel⟩ := hrel
      have hKr := HK4.out.below hbel
      by_cases hlt : k < 6
      · have hkN : k < N := by have := H36.out; omega
        have hpm : powM k 3 N < N := powM_lt (by omega)
        have HO := Lib.hid (fun w => of_li k (by omega) w)
        have HP1 := Lib.hid (fun w' v (h : Below wr.heap.size wr w') (hv : LI .u64 w' v (ofN k)) => pow_li hv (hKr.below h).h1 (hKr.below h).h0 ((LF.out k (by omega)).le (by omega)) ((LF.out 3 (by omega)).le (by omega)) ((LF.out N (Nat.le_refl _)).le (by omega)))
        rw [nI_ofN, nI_ofN, nI_ofN, powR_pos N0] at HP1
        have HP2 := Lib.hid (fun w' v (h : Below wr.heap.size wr w') (hv : LI .u64 w' v (ofN (powM k 3 N))) => pow_li hv (hKr.below h).h2 (hKr.below h).h0 ((LF.out _ (by omega)).le (by omega)) ((okN_ofN (Nat.le_trans HDK.out.lD (by omega)) : okN 64 (ofN D)).le (by omega)) ((LF.out N (Nat.le_refl _)).le (by omega)))
        rw [nI_ofN, nI_ofN, nI_ofN, powR_pos N0, HDK.out.undo k hkN] at HP2
        generalize ofN (powM k 3 N) = PW at HP1 HP2
        obtain ⟨LK, hLK⟩ : ∃ L, ofN k = L := ⟨_, rfl⟩
        rw [hLK] at HO HP1 HP2
        have i1 : IntKind.u64.wrap ((k : Int) + 1) = ((k + 1 : Nat) : Int) := by rw [IntKind.wrap_u64]; omega
        have t5 : (k : Int) < 6 := by omega
        have z0 := fun w' (h : Below wr.heap.size wr w') => (hKr.below h).c0
        have z1 := fun w' (h : Below wr.heap.size wr w') => (hKr.below h).c1
        have HKR := Lib.hid hKr
        have HBEL := Lib.hid hbel
        clear hKr hbel hpm hLK
        go_upto_region 11 with (fail)
        (refine region_told _ (by kernel_rfl) (by kernel_rfl) (by simp only [putAll, Act.put, List.setIfInBounds_toArray, List.set_cons_zero, List.set_cons_succ, Nat.reduceAdd]; rfl) ?_)
        (refine told_step (fun v _ => v = _) (Stays.eq _) (by intro y w' hw' hd; simp only [depsOf, updG, Region.binds, Nat.reduceAdd, Nat.reduceEqDiff, if_false, if_true, and_true, true_and, forall_const, Array.toList, GTrue] at hd; (try go_split_ands); unfold toldAt; go_simp; exact ⟨Below.refl _ _, rfl⟩) ?_)
        (refine told_step (GLI .u64 LK) ( GLI.stays _ _) (by intro y w' hw' hd; simp only [depsOf, updG, Region.binds, Nat.reduceAdd, Nat.reduceEqDiff, if_false, if_true, and_true, true_and, forall_const, Array.toList, GTrue] at hd; (try go_split_ands); unfold toldAt; go_simp; refine ⟨Below.refl _ _, ?_⟩;  exact HO.out w') ?_)
        (refine told_step (fun v _ => v = _) (Stays.eq _) (by intro y w' hw' hd; simp only [depsOf, updG, Region.binds, Nat.reduceAdd, Nat.reduceEqDiff, if_false, if_true, and_true, true_and, forall_const, Array.toList, GTrue] at hd; (try go_split_ands); unfold toldAt; go_simp; exact ⟨Below.refl _ _, rfl⟩) ?_)
        (refine told_step (fun v _ => v = _) (Stays.eq _) (by intro y w' hw' hd; simp only [depsOf, updG, Region.binds, Nat.reduceAdd, Nat.reduceEqDiff, if_false, if_true, and_true, true_and, forall_const, Array.toList, GTrue] at hd; (try go_split_ands); unfold toldAt; go_simp; exact ⟨Below.refl _ _, rfl⟩) ?_)
        (refine told_step (fun v _ => v = _) (Stays.eq _) (by intro y w' hw' hd; simp only [depsOf, updG, Region.binds, Nat.reduceAdd, Nat.reduceEqDiff, if_false, if_true, and_true, true_and, forall_const, Array.toList, GTrue] at hd; (try go_split_ands); unfold toldAt; go_simp; exact ⟨Below.refl _ _, rfl⟩) ?_)
        (refine told_step (fun v _ => v = _) (Stays.eq _) (by intro y w' hw' hd; simp only [depsOf, updG, Region.binds, Nat.reduceAdd, Nat.reduceEqDiff, if_false, if_true, and_true, true_and, forall_const, Array.toList, GTrue] at hd; (try go_split_ands); unfold toldAt; go_simp; exact ⟨Below.refl _ _, rfl⟩) ?_)
        (refine told_step (GTU PW) ( GTU.stays _) (by intro y w' hw' hd; simp only [depsOf, updG, Region.binds, Nat.reduceAdd, Nat.reduceEqDiff, if_false, if_true, and_true, true_and, forall_const, Array.toList, GTrue] at hd;  obtain ⟨q1, q2⟩ := hd; unfold toldAt; go_simp; refine ⟨Below.refl _ _, ?_⟩; exact (HP1.out _ _ hw' q1).mono (by rintro e_ w'' ⟨v, rfl, hb, hl⟩; exact ⟨_, rfl, hb, v, rfl, hl⟩)) ?_)
        (refine told_step (GTU PW) ( GTU.stays _) (by intro y w' hw' hd; simp only [depsOf, updG, Region.binds, Nat.reduceAdd, Nat.reduceEqDiff, if_false, if_true, and_true, true_and, forall_const, Array.toList, GTrue] at hd;  obtain ⟨u, eu, hu⟩ := hd; unfold toldAt; go_simp; exact ⟨Below.refl _ _, u, rfl, hu⟩) ?_)
        (refine told_step (GLI .u64 PW) ( GLI.stays _ _) (by intro y w' hw' hd; simp only [depsOf, updG, Region.binds, Nat.reduceAdd, Nat.reduceEqDiff, if_false, if_true, and_true, true_and, forall_const, Array.toList, GTrue] at hd;  obtain ⟨u, eu, hu⟩ := hd; unfold toldAt; go_simp; exact ⟨Below.refl _ _, hu⟩) ?_)
        (refine told_step (fun v _ => v = .int .i64 0) ( Stays.eq _) (by intro y w' hw' hd; simp only [depsOf, updG, Region.binds, Nat.reduceAdd, Nat.reduceEqDiff, if_false, if_true, and_true, true_and, forall_const, Array.toList, GTrue] at hd;  obtain ⟨⟨u, eu, hu⟩, q2⟩ := hd; unfold toldAt; go_simp; exact Below.refl _ _) ?_)
        (refine told_step (GLI .u64 PW) ( GLI.stays _ _) (by intro y w' hw' hd; simp only [depsOf, updG, Region.binds, Nat.reduceAdd, Nat.reduceEqDiff, if_false, if_true, and_true, true_and, forall_const, Array.toList, GTrue] at hd;  obtain ⟨q1, q2⟩ := hd; unfold toldAt; go_simp; first | exact Below.refl _ _ | exact ⟨Below.refl _ _, q1⟩) ?_)
        (refine told_step (fun v _ => v = _) (Stays.eq _) (by intro y w' hw' hd; simp only [depsOf, updG, Region.binds, Nat.reduceAdd, Nat.reduceEqDiff, if_false, if_true, and_true, true_and, forall_const, Array.toList, GTrue] at hd; (try go_split_ands); unfold toldAt; go_simp; exact ⟨Below.refl _ _, rfl⟩) ?_)
        (refine told_nil ?_; intro y w5 hw5 hd)
        have h10 := hd 10 (by decide)
        simp only [updG, Nat.reduceAdd, Nat.reduceEqDiff, if_false, if_true] at h10
        obtain ⟨u, hu⟩ : ∃ u, y 10 = u := ⟨_, rfl⟩
        rw [hu] at h10 ⊢
        have HU := Lib.hid (GLI.li h10)
        have HW5 := Lib.hid hw5
        have c0 := (HKR.out.below hw5).c0
        have c2 := (HKR.out.below hw5).c2
        clear hd hu h10 hw5 z0 z1
        go_wp2_with (first
          | (go_at_call 21; (with_reducible refine (HP2.out _ _ HW5.out HU.out).mono ?_); rintro e_ w6 ⟨v2, rfl, hb6, hv2⟩; have HV2 := Lib.hid (GLI.li hv2); have HW6 := Lib.hid (HW5.out.trans (hb6.mono HW5.out.size)); clear hb6 hv2 c0 c2)
          | (go_at_call 22; (with_reducible refine (HO.out _).mono ?_); rintro e_ w7 ⟨v3, rfl, hb7, hv3⟩; have HV3 := Lib.hid (GLI.li hv3); have HV4 := Lib.hid (HV2.out.below hb7); have HW7 := Lib.hid (HW6.out.trans (hb7.mono HW6.out.size)); clear hb7 hv3)
          | (go_at_call 23; (with_reducible refine (same_li HV4.out HV3.out).mono ?_); rintro e_ w8 ⟨rfl, hb8⟩; rw [decide_eq_true rfl]; have HW8 := Lib.hid (HW7.out.trans (hb8.mono HW7.out.size)); clear hb8))
        go_roundw
        case rel => exact ⟨k + 1, by omega, by omega, rfl, HBEL.out.trans (HW8.out.mono HBEL.out.size)⟩
        case measure => simp [intOf]; omega
      · obtain rfl : k = 6 := by omega
        have HKR := Lib.hid hKr
        have HBR := Lib.hid (HB.out.trans (hbel.mono hs4))
        have u1 : (0 : Int) ≤ (U : Int) := by omega
        have u2 : (U : Int) ≤ (c : Int) := by have := HRC.out; have := HLU.out; omega
        clear hKr hbel
        go_upto_region 16 with ((with_reducible refine (H2.out _ HBR.out).mono ?_); rintro e_ w5 ⟨v0, v1, v2, rfl, x0, x1, x2, hb5⟩; obtain ⟨C0, f0, rfl, x0⟩ := x0.form; obtain ⟨C1, f1, rfl, x1⟩ := x1.form; obtain ⟨C2, f2, rfl, x2⟩ := x2.form)
        have HK5 := Lib.hid (KB.new (t := 26) x0 x1 x2)
        have HKS := Lib.hid ((HKR.out.below hb5).below HK5.out.bel)
        have HB5 := Lib.hid ((HBR.out.trans (hb5.mono HBR.out.size)).trans (HK5.out.bel.mono (HBR.out.trans (hb5.mono HBR.out.size)).size))
        generalize w5.alloc (.cells #[.slice C0 (ofN N).length f0, .slice C1 (ofN 3).length f1, .slice C2 (ofN D).length f2] 26) = w6 at HK5 HKS HB5 ⊢
        generalize w5.heap.size = g2 at HK5 ⊢
        clear x0 x1 x2 hb5
        go_wp2_with (first
          | (go_at_call 11; refine (alive5_any _).mono ?_; rintro e w7 ⟨rfl, hb7⟩; have HK7 := Lib.hid (HK5.out.below hb7); have HKT := Lib.hid (HKS.out.below hb7); have HB7 := Lib.hid (HB5.out.trans (hb7.mono HB5.out.size)); clear hb7; have c0 := HK7.out.c0; have b0 := HKT.out.c0)
          | (go_at_call 23; (with_reducible refine (same_li HK7.out.h0 HKT.out.h0).mono ?_); rintro e_ w8 ⟨rfl, hb8⟩; rw [decide_eq_true rfl]; have HB8 := Lib.hid (HB7.out.trans (hb8.mono HB7.out.size)); clear hb8))
        go_ret
        exact ⟨rfl, HB8.out⟩
end Go.Proofs.Ytdmglajfmfjmlaa
namespace Go.Proofs.Ytdmglajfmfjmlaa
set_option linter.unusedSimpArgs false
set_option linter.unusedVariables false
set_option maxRecDepth 100000
open Go.ChangeShapes Go.WideShapes Go.ChangeAt Go.RowKit Go.Joins Go.Deep
open Go.ChangeMaps (open_string shut_string)
theorem own_knob : ownKnob Try.prog.godebug = none := by kernel_rfl
theorem laid_out : laidOutB Try.prog = true := by kernel_rfl
end Go.Proofs.Ytdmglajfmfjmlaa
namespace Go.Proofs.Ytdmglajfmfjmlaa
set_option linter.unusedSimpArgs false
set_option linter.unusedVariables false
set_option maxRecDepth 100000
open Go.ChangeShapes Go.WideShapes Go.ChangeAt Go.RowKit
theorem okWide_block {P : Program} {W : World} {base : Nat} {t e : TypeId} {A : Option Addr} {n c : Nat} (ht : P.underlying t = some (.slice e)) (h : Value.okWide P W .any base t (.slice A n c)) : ∀ ad, A = some ad → ad.block < W.heap.size := by
  rintro ad rfl
  unfold Value.okWide at h
  simp only [ht] at h
  unfold Cell.okWide at h
  simp only [ht] at h
  unfold Cell.ok at h
  simp only [ht] at h
  obtain ⟨_, _, _, _, row, cells, hs, _⟩ := h
  rcases Nat.lt_or_ge ad.block W.heap.size with h | h
  · exact h
  · unfold World.shape? at hs
    rw [Array.getElem?_eq_none h] at hs
    cases hs
theorem nums_arg {H : Type} {enc : TypeId × Value → H} {P : Program} {W : World} {t e : TypeId} {k : IntKind} {A : Option Addr} {n c : Nat} {d : DataW H} {p : List MemPlace} (ht : P.underlying t = some (.slice e)) (he : P.underlying e = some (.int k)) (hc : P.cellsOf e = 1)
    (h0 : DataW.Trod enc P W 0 (fun _ => true) true t (.slice A n c) d p) (hk : ∀ z, (Lit.int k z).wf = true → 0 ≤ z) :
    ∃ xs : List Nat, (A = none → n = 0) ∧ Rd k W A n c xs ∧ ∀ x ∈ xs, (Lit.int k (x : Int)).wf = true := by
  obtain ⟨fuel, hf⟩ := h0
  rcases open_ints ht he hc hf with ⟨hcs, _⟩ | ⟨x, l, c', zs, hcs, _, hl, hm, hz, _, hcell, hwz⟩
  · simp [Value.cells] at hcs
    obtain ⟨rfl, rfl, rfl⟩ := hcs
    exact ⟨[], fun _ => rfl, Rd.nil _ _ _ _, by simp⟩
  · simp [Value.cells] at hcs
    obtain ⟨rfl, rfl, rfl⟩ := hcs
    simp only [if_true] at hz
    have nn : ∀ i, i < n → 0 ≤ zs.getD i 0 := fun i hi => by
      rw [List.getD_eq_getElem?_getD, List.getElem?_eq_getElem (by omega)]
      exact hk _ (hwz _ (List.getElem_mem _))
    refine ⟨(zs.take n).map Int.toNat, (fun h => by cases h), ⟨by rw [List.length_map, List.length_take]; omega, hl, by unfold maxLen at hm; omega, fun hn => ⟨x, rfl, ?_, fun j y hy => ?_⟩⟩, ?_⟩
    · have := World.block_lt_of_cell? W _ (hcell 0 (by omega))
      rwa [Go.ChangeShapes.block_add] at this
    · have hj : j < n := by
        rcases Nat.lt_or_ge j n with h | h
        · exact h
        · rw [List.getElem?_eq_none (by rw [List.length_map, List.length_take]; omega)] at hy; cases hy
      rw [hcell j (by omega)]
      have h1 := nn j hj
      rw [List.getD_eq_getElem?_getD, List.getElem?_eq_getElem (by omega)] at h1 ⊢
      rw [List.getElem?_map, List.getElem?_take, if_pos hj, List.getElem?_eq_getElem (by omega)] at hy
      simp only [Option.map_some, Option.some.injEq, Option.getD_some] at hy h1 ⊢
      congr 2; omega
    · intro y hy
      simp only [List.mem_map] at hy
      obtain ⟨z, hz', rfl⟩ := hy
      have hw := hwz z (List.mem_of_mem_take hz')
      rw [Int.toNat_of_nonneg (hk z hw)]
      exact hw
theorem u8_wf {z : Int} (h : (Lit.int .u8 z).wf = true) : 0 ≤ z ∧ z < 256 := by
  simp only [Lit.wf, Bool.and_eq_true, decide_eq_true_eq] at h
  have h1 : IntKind.u8.min = 0 := by decide
  have h2 : IntKind.u8.max = 255 := by decide
  omega
theorem bytes_arg {H : Type} {enc : TypeId × Value → H} {P : Program} {W : World} {t e : TypeId} {A : Option Addr} {n c : Nat} {d : DataW H} {p : List MemPlace} {base : Nat} (ht : P.underlying t = some (.slice e)) (he : P.underlying e = some (.int .u8)) (hc : P.cellsOf e = 1)
    (h0 : DataW.Trod enc P W 0 (fun _ => true) true t (.slice A n c) d p) (hv : Value.okWide P W .any base t (.slice A n c)) :
    ∃ xs : List Nat, Rd .u8 W A n c xs ∧ (∀ x ∈ xs, x < 256) ∧ ∀ ad, A = some ad → ad.block < W.heap.size := by
  obtain ⟨xs, _, h1, h2⟩ := nums_arg ht he hc h0 (fun z h => (u8_wf h).1)
  exact ⟨xs, h1, fun x hx => by have := (u8_wf (h2 x hx)).2; omega, okWide_block ht hv⟩
end Go.Proofs.Ytdmglajfmfjmlaa
