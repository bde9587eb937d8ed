/- Texts of this claim, joined: Lq, Ka, Kb, Kc, Kd, Ke, Kf, Kg, Kh. -/
import Derived.Test.YtiimflmbcgnbeaaLp
import Derived.Test.YtiimflmbcgnbeaaMY
import Derived.LoopNIn
import Derived.Test.YtiimflmbcgnbeaaBy

/- A range over a function whose iterator goes on until its body says no more: break and return within it. -/
namespace Go.Proofs.Ytiimflmbcgnbeaa
set_option linter.unusedSimpArgs false
set_option linter.unusedVariables false
open Go.RowKit

/-- how a body ends that goes on, breaks or returns -/
def stopsOn {β : Type} (lo hi : Nat) (I : β → World → Prop) (Ix : Code → β → World → Prop) (s : β) (W : World) : Exit → Act → World → Prop
  | .normal, _, W' => KeepsOthers W W' ∧ (∀ k, lo ≤ k → k < hi → W'.heap[k]? = W.heap[k]?) ∧ I s W'
  | .ret, _, W' => KeepsOthers W W' ∧ Ix .ret s W'
  | .exit id, _, W' => KeepsOthers W W' ∧ Ix (.exit id) s W'
  | _, _, _ => False
theorem stopsOn_mono {β : Type} {lo hi : Nat} {I : β → World → Prop} {Ix : Code → β → World → Prop} {s : β} {W : World} : True := trivial
/-- what an iterator promises that goes on for ever -/
def EndlessSeq {α : Type} (F : Fence) (n : Nat) (P : Program) (gf : Nat) (lb : Array Value) (encs : α → Array Value) (Ok : List α → α → Prop) (Bn lo hi : Nat) (w : World) : Prop :=
  ∀ (l N : Nat) (J Jx : List α → World → Prop) (W : World), Below w.heap.size w W → AbidesBox Bn J → (∀ pre W1, J pre W1 → pre.length < N) →
    (∀ pre x W1, J pre W1 → Ok pre x → YieldAt F (n - 1) P l (encs x) W1 fun e W' => (e = .returned (.bool true) ∧ J (pre ++ [x]) W' ∧ ∀ k, lo ≤ k → k < hi → W'.heap[k]? = W1.heap[k]?) ∨ (e = .returned (.bool false) ∧ Jx (pre ++ [x]) W')) →
    J [] W → CallsIn F n P gf (#[.func (.yield l) #[] #[]] ++ lb) W fun e W' => (∃ v, e = .returned v) ∧ ∃ xs, Jx xs W'
section
variable {F : Fence} {n : Nat} {P : Program}
theorem range_stop {α : Type} {g : Operand} {ps : Array Tmp} {assign body : Code} {Q : Exit → Act → World → Prop} {a : Act} {w : World}
    (hro : F.round = none) (h1 : 1 ≤ n) {gf : Nat} {lb : Array Value} (hg : a.eval g = .func (.func gf) #[] lb) (hFg : F.fn gf) (eg : ∀ args w, (callFunc gf args).run P w = .ok (.enter gf args) w)
    {encs : α → Array Value} {Ok : List α → α → Prop} {Bn lo hi : Nat} (hBn : Bn < w.heap.size) (hhi : hi ≤ w.heap.size)
    (hseq : EndlessSeq F (n - 1) P gf lb encs Ok Bn lo hi w)
    (hps : ∀ x, (encs x).size = ps.size) (N : Nat)
    (I : List α → World → Prop) (Ix : Code → List α → World → Prop) (hI : OwnFrom w.heap.size I) (hIx : ∀ c, OwnFrom w.heap.size (Ix c)) (hIB : AbidesBox Bn I) (hN : ∀ pre W1, I pre W1 → pre.length < N) (h0 : I [] w) (a₁ : α → Act)
    (hassign : ∀ (l : Nat) (x : α) (W : World) (K : Act → World → Prop), K (a₁ x) W →
      assign.wpIn (F.inRound l) (n - 1 - 1) P (Exit.then K (fun _ _ _ => False)) { tmps := (ps.zip (encs x)).foldl (fun t (p, v) => t.setIfInBounds p v) a.tmps, defers := [] } W)
    (hbody : ∀ (l : Nat) (pre : List α) (x : α) (W : World), I pre W → Ok pre x → body.wpIn (F.inRound l) (n - 1 - 1) P (stopsOn lo hi I Ix (pre ++ [x]) W) (a₁ x) W)
    (hstop : ∀ (D : Nat) (c : Code) (xs : List α) (W : World), w.heap.size ≤ D → Ix c xs W → W.heap[D]? = some (.deferred (some [])) → c.wpIn F n P Q { a with defers := { target := .collected D, args := #[] } :: a.defers } W) :
    (Code.rangeFunc g ps assign body).wpIn F n P Q a w := by
  refine wpIn_rangeFunc fun fn hfn => ?_
  rw [hro]
  obtain ⟨rec, hrec⟩ : ∃ rec : LoopState → Option Code → Loop, rec = fun st pe => { state := st, pending := pe, fn, tmps := a.tmps, params := ps, assign, body, defers := w.heap.size } := ⟨_, rfl⟩
  obtain ⟨W1, hW1⟩ : ∃ W1, (w.alloc (.deferred (some []))).alloc (.loop (rec .ready none)) = W1 := ⟨_, rfl⟩
  have hL1 : W1.heap[w.heap.size + 1]? = some (.loop (rec .ready none)) := by
    have := World.alloc_heap_new (w.alloc (.deferred (some []))) (.loop (rec .ready none))
    rw [World.size_alloc, hW1] at this; exact this
  have hK1 : W1.heap[w.heap.size]? = some (.deferred (some [])) := by
    rw [← hW1]; exact (Below.heap_alloc _ _ _ (by simp)).trans (World.alloc_heap_new w _)
  have hI1 : I [] W1 := by rw [← hW1]; exact hI.alloc _ (hI.alloc _ h0)
  have hb1 : Below w.heap.size w W1 := by rw [← hW1]; exact ((Below.refl _ w).alloc (Nat.le_refl _) _).alloc (by simp) _
  refine ⟨w.heap.size + 1, [{ target := .collected w.heap.size, args := #[] }], W1, { target := .fn (.func gf) lb, args := #[.func (.yield (w.heap.size + 1)) #[] #[]] }, W1, gf, #[.func (.yield (w.heap.size + 1)) #[] #[]] ++ lb, W1, ?_, ?_, ?_, ?_, fun _ => h1, ?_⟩
  · rw [← hW1, hrec]; exact run_enterLoop_outer _ _ _ _ _
  · simp only [resolve, hg]
    simp [go_sem]
  · intro f' hf'; simp [Target.leads] at hf'; subst hf'; exact hFg
  · simp [invoke, go_sem, eg]
  · have hrow : ∀ {row : Option Nat}, (∀ r, row = some r → r = Bn) → ∀ k, w.heap.size ≤ k → some k ≠ row := fun hr k hk e => by
      have := hr k e.symm; omega
    refine (hseq (w.heap.size + 1) N (fun pre W => I pre W ∧ W.heap[w.heap.size + 1]? = some (.loop (rec .ready none)) ∧ W.heap[w.heap.size]? = some (.deferred (some [])))
      (fun pre W => ∃ c, Ix c pre W ∧ W.heap[w.heap.size + 1]? = some (.loop (rec .done (some c))) ∧ W.heap[w.heap.size]? = some (.deferred (some []))) W1 hb1 ?_ (fun pre W h => hN pre W h.1) ?_ ⟨hI1, hL1, hK1⟩).mono ?_
    · intro s A B row hs hg' hr
      exact ⟨hIB s A B row hs.1 hg' hr, (hg'.block _ (Array.getElem?_eq_some_iff.1 hs.2.1).1 (hrow hr _ (by omega))).trans hs.2.1, (hg'.block _ (Array.getElem?_eq_some_iff.1 hs.2.2).1 (hrow hr _ (by omega))).trans hs.2.2⟩
    · rintro pre x W ⟨hi', hl, hk⟩ hok
      have hlt : w.heap.size + 1 < W.heap.size := (Array.getElem?_eq_some_iff.1 hl).1
      have hy := run_yield (P := P) (args := encs x) hl (by rw [hrec]; exact hps x)
      rw [hrec] at hy
      refine ⟨fn, _, assign, body, hy, roundIn_of_wpIn hfn (hassign _ x W _ ⟨_, run_beginRound hl (by rw [hrec]), ?_⟩)⟩
      have hl2 : (W.putObj (w.heap.size + 1) (.loop { rec .ready none with state := .busy })).heap[w.heap.size + 1]? = some (.loop { rec .ready none with state := .busy }) := World.putObj_heap_same hlt
      have hk2 : (W.putObj (w.heap.size + 1) (.loop { rec .ready none with state := .busy })).heap[w.heap.size]? = some (.deferred (some [])) := (World.putObj_heap_other (by omega)).trans hk
      have hB2 : ∀ k, lo ≤ k → k < hi → (W.putObj (w.heap.size + 1) (.loop { rec .ready none with state := .busy })).heap[k]? = W.heap[k]? := fun k _ hk' => World.putObj_heap_other (by omega)
      refine wpIn_mono (hbody _ pre x _ (hI.putObj _ hi' (by omega) hl rfl) hok) ?_
      rintro e a3 W3 hp
      cases e with
      | normal =>
        obtain ⟨hk3, hB3, hi3⟩ := hp
        have hl3 := hk3.same _ _ hl2 rfl
        have hr := run_endRound (P := P) none hl3
        have hlt3 := (Array.getElem?_eq_some_iff.1 hl3).1
        rw [hrec] at hr
        refine ⟨_, _, hr, .inl ⟨rfl, ⟨hI.putObj _ hi3 (by omega) hl3 rfl, ?_, (World.putObj_heap_other (by omega)).trans (hk3.same _ _ hk2 rfl)⟩, fun k h1' h2' => ?_⟩⟩
        · rw [hrec]; exact World.putObj_heap_same hlt3
        · exact (World.putObj_heap_other (by omega)).trans ((hB3 k h1' h2').trans (hB2 k h1' h2'))
      | ret =>
        obtain ⟨hk3, hi3⟩ := hp
        have hl3 := hk3.same _ _ hl2 rfl
        have hr := run_endRound (P := P) (some .ret) hl3
        have hlt3 := (Array.getElem?_eq_some_iff.1 hl3).1
        rw [hrec] at hr
        refine ⟨_, _, hr, .inr ⟨rfl, .ret, (hIx .ret).putObj _ hi3 (by omega) hl3 rfl, ?_, (World.putObj_heap_other (by omega)).trans (hk3.same _ _ hk2 rfl)⟩⟩
        rw [hrec]; exact World.putObj_heap_same hlt3
      | exit id =>
        obtain ⟨hk3, hi3⟩ := hp
        have hl3 := hk3.same _ _ hl2 rfl
        have hr := run_endRound (P := P) (some (.exit id)) hl3
        have hlt3 := (Array.getElem?_eq_some_iff.1 hl3).1
        rw [hrec] at hr
        refine ⟨_, _, hr, .inr ⟨rfl, .exit id, (hIx (.exit id)).putObj _ hi3 (by omega) hl3 rfl, ?_, (World.putObj_heap_other (by omega)).trans (hk3.same _ _ hk2 rfl)⟩⟩
        rw [hrec]; exact World.putObj_heap_same hlt3
      | _ => exact hp.elim
    · rintro e W2 ⟨⟨v, rfl⟩, xs, c, hx, hl, hk⟩
      have hend := run_endLoop (P := P) hl (by rw [hrec]; simp)
      rw [hrec] at hend
      exact ⟨some c, _, hend, hstop _ c xs _ (Nat.le_refl _) ((hIx c).putObj _ hx (by omega) hl rfl) ((World.putObj_heap_other (by omega)).trans hk)⟩
end
end Go.Proofs.Ytiimflmbcgnbeaa

/- Session keys, key numbers, cookies and sums: the program's functions. -/
namespace Go.Proofs.Ytiimflmbcgnbeaa
set_option linter.unusedSimpArgs false
set_option linter.unusedVariables false
open Go.RowKit Go.Proofs.YtiimflmbcgnbeaaW.PrintWords

def numL (xs : List Nat) : List Nat := xs.flatMap four4
theorem numL_length (xs : List Nat) : (numL xs).length = 4 * xs.length := by
  unfold numL
  induction xs with
  | nil => rfl
  | cons x xs ih => rw [List.flatMap_cons, List.length_append, ih]; show 4 + _ = _; rw [List.length_cons]; omega
theorem numL_b8 (xs : List Nat) : B8 (numL xs) := by
  intro x hx
  unfold numL at hx
  obtain ⟨y, _, h⟩ := List.mem_flatMap.1 hx
  exact four4_b8 y x h
/-- the bytes of a session's key, and the next number -/
def sessN (a b c d : Nat) : List Nat := (shaN (numL [a, b, c, d])).take 16
def nextN (a b c d : Nat) : Nat := be4 (sessN a b c d) 0
theorem sessN_length (a b c d : Nat) : (sessN a b c d).length = 16 := by unfold sessN; rw [List.length_take, shaN_length]; rfl
theorem sessN_b8 (a b c d : Nat) : B8 (sessN a b c d) := (shaN_b8 _).take _
theorem nextN_lt (a b c d : Nat) : nextN a b c d < 4294967296 := be4_lt (sessN_b8 a b c d) 0
theorem numbers_any (w : World) {A : Option Addr} {n c : Nat} {xs : List Nat} (hx : Rd .u32 w A n c xs) (b32 : B32 xs) (hn : n ≤ 1000) :
    Calls Try.prog 62 #[.slice A n c] w fun e w' => ∃ A' c', e = .returned (.slice A' (4 * n) c') ∧ Own .u8 5 w' w.heap.size A' (4 * n) c' (numL xs) ∧ Below w.heap.size w w' := by
  obtain ⟨i0, hi0, hz0, hz1, hz2⟩ := info_parts u8_info
  have hl := hx.len
  go_enter Try.func62, Try.ntmps62
  go_wp2_with fail
  go_loopw [3, 8] (fun o i wr => ∃ (t : Nat) (A' : Option Addr) (c' : Nat), t ≤ n ∧ i = .int .i64 (t : Int) ∧ o = .slice A' (4 * t) c' ∧ Own .u8 5 wr w.heap.size A' (4 * t) c' (numL (xs.take t)) ∧ Below w.heap.size w wr) (fun _ i _ => n - (intOf i).toNat)
  case atStart => exact ⟨0, none, 0, by omega, rfl, rfl, Own.nil _ _ _ _, Below.refl _ _⟩
  case round =>
    obtain ⟨t, A', c', ht, rfl, rfl, hown, hbel⟩ := hrel
    have hsr := hbel.size
    by_cases hlt : t < n
    · obtain ⟨ad, rfl, hab, hac⟩ := (hx.below hbel).form (by omega)
      obtain ⟨x, ex⟩ : ∃ z, gd xs t = z := ⟨_, rfl⟩
      have cx := hac t hlt
      rw [ex] at cx
      have lx : x < 4294967296 := by rw [← ex]; exact b32.gd t
      have a1 : (t : Int) < (n : Int) := by omega
      have a0 : (0 : Int) ≤ (t : Int) := by omega
      have hnum : numL (xs.take t) ++ four4 x = numL (xs.take (t + 1)) := by
        rw [List.take_succ_eq_append_getElem (by omega), ← gd_lt (by omega), ex]
        unfold numL
        rw [List.flatMap_append]; simp
      have HN := Lib.hid hnum
      have HOWN := Lib.hid hown
      have HBEL := Lib.hid hbel
      have i1 : IntKind.i64.wrap ((t : Int) + 1) = (t : Int) + 1 := IntWalk.i64_in _ (by omega)
      clear ex hac hnum hown hbel
      go_upto_region 5 with (fail)
      refine wp_region_lit ?_
      iterate 13 (refine wpList_plain rfl (fun K hK => ?_); go_simp; refine hK _ _ ?_; clear hK K)
      rw [show Obj.cells #[.int .u8 (IntKind.u8.wrap ((x : Int) / 16777216)), .int .u8 (IntKind.u8.wrap ((x : Int) / 65536)), .int .u8 (IntKind.u8.wrap ((x : Int) / 256)), .int .u8 (IntKind.u8.wrap (x : Int))] 5 = Obj.cells (va .u8 (four4 x)) 5 by rw [u8_of24, u8_of16, u8_of8, u8_of0]; rfl]
      have hr := (Own.of_bk (k := .u8) (base := 0) (n := 4) (Bk.new wr 5 (va .u8 (four4 x))) (Nat.zero_le _) rfl (by omega)).rd
      have hn1 := (Below.refl wr.heap.size wr).alloc (Nat.le_refl _) (.cells (va .u8 (four4 x)) 5)
      have ho := HOWN.out.below hn1
      have hb := HBEL.out.trans (hn1.mono (by omega))
      generalize wr.alloc (.cells (va .u8 (four4 x)) 5) = w2 at hr hn1 ho hb ⊢
      have hsb := hb.size
      go_wp2_with (at_builtin; refine wpList_append_rd _ rfl (.tmp 12) (.tmp 24) _ rfl .u8 w.heap.size 5 i0 (.int .u8 0) 1 Try.underlying22 hi0 hz0 hz1 hz2 rfl A' (4 * t) c' (numL (xs.take t)) rfl ho _ _ _ _ rfl hr (by unfold maxLen; omega) (by omega) (by omega) ?_)
      intro A2 c2 w3 ho' hb' _ _
      go_wp2_with fail
      rw [HN.out] at ho'
      exact ⟨⟨t + 1, A2, c2, by omega, by go_num, rfl, ho', hb.trans hb'⟩, by simp [intOf]; omega⟩
    · obtain rfl : n = t := by omega
      rw [List.take_of_length_le (by omega)] at hown
      go_wp2_with fail
      go_ret
      exact ⟨A', c', rfl, hown, hbel⟩
theorem fourk_any (w : World) {A : Option Addr} {n c : Nat} {b : List Nat} (hb : Rd .u8 w A n c b) (b8 : B8 b) (hn : 4 ≤ n) :
    Calls Try.prog 63 #[.slice A n c] w fun e w' => e = .returned (.int .u32 ((be4 b 0 : Nat) : Int)) ∧ Below w.heap.size w w' := by
  obtain ⟨ad, rfl, hab, hac⟩ := hb.form (by omega)
  have c0 := hac 0 (by omega)
  have c0' : w.cell? ad = some (.int .u8 ((gd b 0 : Nat) : Int)) := by have h := c0; rwa [show ad.add 0 = ad by simp [Addr.add]] at h
  have q0 := b8.gd 0
  obtain ⟨b0, e0⟩ : ∃ z, gd b 0 = z := ⟨_, rfl⟩
  rw [e0] at c0 c0' q0
  have c1 := hac 1 (by omega)
  have c1' : w.cell? ⟨ad.block, ad.off + 1, none⟩ = some (.int .u8 ((gd b 1 : Nat) : Int)) := by have h := c1; rwa [show ad.add 1 = ⟨ad.block, ad.off + 1, none⟩ by simp [Addr.add]] at h
  have q1 := b8.gd 1
  obtain ⟨b1, e1⟩ : ∃ z, gd b 1 = z := ⟨_, rfl⟩
  rw [e1] at c1 c1' q1
  have c2 := hac 2 (by omega)
  have c2' : w.cell? ⟨ad.block, ad.off + 2, none⟩ = some (.int .u8 ((gd b 2 : Nat) : Int)) := by have h := c2; rwa [show ad.add 2 = ⟨ad.block, ad.off + 2, none⟩ by simp [Addr.add]] at h
  have q2 := b8.gd 2
  obtain ⟨b2, e2⟩ : ∃ z, gd b 2 = z := ⟨_, rfl⟩
  rw [e2] at c2 c2' q2
  have c3 := hac 3 (by omega)
  have c3' : w.cell? ⟨ad.block, ad.off + 3, none⟩ = some (.int .u8 ((gd b 3 : Nat) : Int)) := by have h := c3; rwa [show ad.add 3 = ⟨ad.block, ad.off + 3, none⟩ by simp [Addr.add]] at h
  have q3 := b8.gd 3
  obtain ⟨b3, e3⟩ : ∃ z, gd b 3 = z := ⟨_, rfl⟩
  rw [e3] at c3 c3' q3
  have HE := Lib.hid (show be4 b 0 = b0 * 16777216 + b1 * 65536 + b2 * 256 + b3 by unfold be4; rw [← e0, ← e1, ← e2, ← e3])
  have u0 : IntKind.u32.wrap (b0 : Int) = (b0 : Int) := u32w (by omega)
  have u1 : IntKind.u32.wrap (b1 : Int) = (b1 : Int) := u32w (by omega)
  have u2 : IntKind.u32.wrap (b2 : Int) = (b2 : Int) := u32w (by omega)
  have u3 : IntKind.u32.wrap (b3 : Int) = (b3 : Int) := u32w (by omega)
  obtain ⟨v0, hv0⟩ : ∃ v, b0 * 16777216 = v := ⟨_, rfl⟩
  obtain ⟨v1, hv1⟩ : ∃ v, b1 * 65536 = v := ⟨_, rfl⟩
  obtain ⟨v2, hv2⟩ : ∃ v, b2 * 256 = v := ⟨_, rfl⟩
  obtain ⟨y1, hy1⟩ : ∃ y, v0 + v1 = y := ⟨_, rfl⟩
  obtain ⟨y2, hy2⟩ : ∃ y, y1 + v2 = y := ⟨_, rfl⟩
  obtain ⟨y3, hy3⟩ : ∃ y, y2 + b3 = y := ⟨_, rfl⟩
  obtain ⟨hye, hy32⟩ := be4_sum hv0 hv1 hv2 hy1 hy2 hy3 q0 q1 q2 q3
  have HY := Lib.hid (HE.out.trans hye)
  clear hye
  have o1 : Go.bits .or .u32 (v0 : Int) (v1 : Int) = (y1 : Int) := by rw [← hy1]; exact or_sum 24 (by omega) (by omega) (by omega)
  have o2 : Go.bits .or .u32 (y1 : Int) (v2 : Int) = (y2 : Int) := by rw [← hy2]; exact or_sum 16 (by omega) (by omega) (by omega)
  have o3 : Go.bits .or .u32 (y2 : Int) (b3 : Int) = (y3 : Int) := by rw [← hy3]; exact or_sum 8 (by omega) (by omega) (by omega)
  have m0 : IntKind.u32.wrap ((b0 : Int) * 16777216) = (v0 : Int) := by rw [IntKind.wrap_u32]; clear o1 o2 o3; omega
  have m1 : IntKind.u32.wrap ((b1 : Int) * 65536) = (v1 : Int) := by rw [IntKind.wrap_u32]; clear o1 o2 o3 m0; omega
  have m2 : IntKind.u32.wrap ((b2 : Int) * 256) = (v2 : Int) := by rw [IntKind.wrap_u32]; clear o1 o2 o3 m0 m1; omega
  have n0 : (0 : Int) < (n : Int) := by clear o1 o2 o3 m0 m1 m2; omega
  have z0 : 0 < n := by clear o1 o2 o3 m0 m1 m2; omega
  have z1 : 1 < n := by clear o1 o2 o3 m0 m1 m2; omega
  have z2 : 2 < n := by clear o1 o2 o3 m0 m1 m2; omega
  have z3 : 3 < n := by clear o1 o2 o3 m0 m1 m2; omega
  have n1 : (1 : Int) < (n : Int) := by clear o1 o2 o3 m0 m1 m2; omega
  have n2 : (2 : Int) < (n : Int) := by clear o1 o2 o3 m0 m1 m2; omega
  have n3 : (3 : Int) < (n : Int) := by clear o1 o2 o3 m0 m1 m2; omega
  rw [HY.out]
  clear e0 e1 e2 e3 hac hv0 hv1 hv2 hy1 hy2 hy3 HE HY hab
  go_enter Try.func63, Try.ntmps63
  go_wp2_with fail
  go_quiet (fail)
  go_wp2_with fail
  go_ret
  exact ⟨rfl, below_drewN (Below.refl _ _) _⟩
theorem row4 (w : World) (a b c d : Nat) : Rd .u32 (w.alloc (.cells (va .u32 [a, b, c, d]) 41)) (some ⟨w.heap.size, 0, none⟩) 4 4 [a, b, c, d] := (Own.of_bk (k := .u32) (base := 0) (n := 4) (Bk.new w 41 (va .u32 [a, b, c, d])) (Nat.zero_le _) rfl (by omega)).rd
theorem b32_four {a b c d : Nat} (ha : a < 4294967296) (hb : b < 4294967296) (hc : c < 4294967296) (hd : d < 4294967296) : B32 [a, b, c, d] := B32.cons ha (B32.cons hb (B32.cons hc (B32.cons hd B32.nil)))
theorem session_any (w : World) {a b c d : Nat} (ha : a < 4294967296) (hb : b < 4294967296) (hc : c < 4294967296) (hd : d < 4294967296) :
    Calls Try.prog 43 #[.int .u32 (a : Int), .int .u32 (b : Int), .int .u32 (c : Int), .int .u32 (d : Int)] w fun e w' => ∃ A' c', e = .returned (.slice A' 16 c') ∧ Own .u8 5 w' w.heap.size A' 16 c' (sessN a b c d) ∧ Below w.heap.size w w' := by
  go_enter Try.func43, Try.ntmps43
  go_upto_region 1 with (fail)
  refine wp_region_lit ?_
  iterate 5 (refine wpList_plain rfl (fun K hK => ?_); go_simp; refine hK _ _ ?_; clear hK K)
  rw [show Obj.cells #[.int .u32 (a : Int), .int .u32 (b : Int), .int .u32 ((c : Nat) : Int), .int .u32 (d : Int)] 41 = Obj.cells (va .u32 [a, b, c, d]) 41 from rfl]
  have hr := row4 w a b c d
  have hb1 := (Below.refl w.heap.size w).alloc (Nat.le_refl _) (.cells (va .u32 [a, b, c, d]) 41)
  generalize w.alloc (.cells (va .u32 [a, b, c, d]) 41) = w1 at hr hb1 ⊢
  have hs1 := hb1.size
  refine wpl_call rfl (w' := w1) (f := 62) (args := #[.slice (some ⟨w.heap.size, 0, none⟩) 4 4]) (by kernel_rfl) (numbers_any w1 hr (b32_four ha hb hc hd) (by omega)) ?_
  rintro e w2 ⟨A2, c2, rfl, o2, b2⟩
  refine ⟨_, rfl, ?_⟩
  have hs2 := b2.size
  have hbb := hb1.trans (b2.mono hs1)
  have hT := trunc_any w2 (b := numL [a, b, c, d]) (n := 16) o2.rd (numL_b8 _) (by rw [numL_length]; show 16 < _; omega) (fun ad e => by
    obtain ⟨g, h, _, h3⟩ := o2.blk (by omega)
    rw [h] at e; cases e; exact h3) (by omega)
  rw [show (numL [a, b, c, d]).length = 16 from numL_length _] at hT
  refine wpl_call rfl (w' := w2) (f := 28) (args := #[.slice A2 16 c2, .int .i64 16]) (by kernel_rfl) hT ?_
  rintro e w3 ⟨A3, c3, rfl, o3, b3⟩
  refine ⟨_, rfl, ?_⟩
  have h3 := hbb.trans (b3.mono (by omega))
  go_wp2_with fail
  go_ret
  exact ⟨A3, c3, rfl, o3.lower (by omega), h3⟩
theorem next_any (w : World) {a b c d : Nat} (ha : a < 4294967296) (hb : b < 4294967296) (hc : c < 4294967296) (hd : d < 4294967296) :
    Calls Try.prog 44 #[.int .u32 (a : Int), .int .u32 (b : Int), .int .u32 (c : Int), .int .u32 (d : Int)] w fun e w' => e = .returned (.int .u32 ((nextN a b c d : Nat) : Int)) ∧ Below w.heap.size w w' := by
  have hS := session_any w ha hb hc hd
  go_enter Try.func44, Try.ntmps44
  go_wp2_with (first
    | (go_at_call 43; refine hS.mono ?_; rintro e w1 ⟨A1, c1, rfl, o1, b1⟩)
    | (go_at_call 63; refine (fourk_any _ o1.rd (sessN_b8 a b c d) (by omega)).mono ?_; rintro e w2 ⟨rfl, b2⟩))
  go_ret
  exact ⟨rfl, b1.trans (b2.mono b1.size)⟩
theorem cookie_any (w : World) {a b d : Nat} (ha : a < 4294967296) (hb : b < 4294967296) (hd : d < 4294967296) :
    Calls Try.prog 46 #[.int .u32 (a : Int), .int .u32 (b : Int), .int .u32 (d : Int)] w fun e w' => e = .returned (.int .u32 ((be4 (shaN (numL [a, b, 0, d])) 0 : Nat) : Int)) ∧ Below w.heap.size w w' := by
  have hc : 0 < 4294967296 := by omega
  go_enter Try.func46, Try.ntmps46
  go_upto_region 1 with (fail)
  refine wp_region_lit ?_
  iterate 4 (refine wpList_plain rfl (fun K hK => ?_); go_simp; refine hK _ _ ?_; clear hK K)
  obtain ⟨c, hc0⟩ : ∃ z : Nat, 0 = z := ⟨_, rfl⟩
  rw [show Obj.cells #[.int .u32 (a : Int), .int .u32 (b : Int), .int .u32 0, .int .u32 (d : Int)] 41 = Obj.cells #[.int .u32 (a : Int), .int .u32 (b : Int), .int .u32 ((c : Nat) : Int), .int .u32 (d : Int)] 41 by rw [← hc0]; rfl]
  rw [hc0] at hc
  have HC0 := Lib.hid hc0
  clear hc0
  rw [show Obj.cells #[.int .u32 (a : Int), .int .u32 (b : Int), .int .u32 ((c : Nat) : Int), .int .u32 (d : Int)] 41 = Obj.cells (va .u32 [a, b, c, d]) 41 from rfl]
  have hr := row4 w a b c d
  have hb1 := (Below.refl w.heap.size w).alloc (Nat.le_refl _) (.cells (va .u32 [a, b, c, d]) 41)
  generalize w.alloc (.cells (va .u32 [a, b, c, d]) 41) = w1 at hr hb1 ⊢
  have hs1 := hb1.size
  refine wpl_call rfl (w' := w1) (f := 62) (args := #[.slice (some ⟨w.heap.size, 0, none⟩) 4 4]) (by kernel_rfl) (numbers_any w1 hr (b32_four ha hb hc hd) (by omega)) ?_
  rintro e w2 ⟨A2, c2, rfl, o2, b2⟩
  refine ⟨_, rfl, ?_⟩
  have hs2 := b2.size
  have hbb := hb1.trans (b2.mono hs1)
  obtain ⟨D, hD⟩ : ∃ z, shaN (numL [a, b, c, d]) = z := ⟨_, rfl⟩
  have lD : D.length = 32 := by rw [← hD]; exact shaN_length _
  have D8 : B8 D := by rw [← hD]; exact shaN_b8 _
  have hS := pk_any w2 (b := numL [a, b, c, d]) o2.rd (numL_b8 _) (by omega) (fun ad e => by
    obtain ⟨g, h, _, h3⟩ := o2.blk (by omega)
    rw [h] at e; cases e; exact h3)
  rw [hD] at hS
  refine wpl_call rfl (w' := w2) (f := 20) (args := #[.slice A2 16 c2]) (by kernel_rfl) hS ?_
  rintro e w4 ⟨rfl, b4⟩
  refine ⟨_, rfl, ?_⟩
  have h4 := hbb.trans (b4.mono (by omega))
  (refine wpList_plain rfl (fun K hK => ?_); go_simp; refine hK _ _ ?_; clear hK K)
  rw [show Obj.cells #[.int .u8 0, .int .u8 0, .int .u8 0, .int .u8 0, .int .u8 0, .int .u8 0, .int .u8 0, .int .u8 0, .int .u8 0, .int .u8 0, .int .u8 0, .int .u8 0, .int .u8 0, .int .u8 0, .int .u8 0, .int .u8 0, .int .u8 0, .int .u8 0, .int .u8 0, .int .u8 0, .int .u8 0, .int .u8 0, .int .u8 0, .int .u8 0, .int .u8 0, .int .u8 0, .int .u8 0, .int .u8 0, .int .u8 0, .int .u8 0, .int .u8 0, .int .u8 0] 26 = Obj.cells (va .u8 (List.replicate 32 0)) 26 from rfl]
  have ho := Bk.new w4 26 (va .u8 (List.replicate 32 0))
  have hl := h4.alloc h4.size (.cells (va .u8 (List.replicate 32 0)) 26)
  have hs4 := h4.size
  generalize w4.alloc (.cells (va .u8 (List.replicate 32 0)) 26) = w5 at ho hl ⊢
  obtain ⟨g, hg⟩ : ∃ g, w4.heap.size = g := ⟨_, rfl⟩
  rw [hg] at ho hs4 ⊢
  refine wpList_store_row rfl 26 _ _ rfl g (va .u8 D) (by kernel_rfl) (by kernel_rfl) 26 (va .u8 (List.replicate 32 0)) ho (out_info.trans (by rw [va_size, lD])) (by rw [va_size, va_size, lD, List.length_replicate]) (va_all _ _) ?_
  refine wpList_nil ?_
  have hst := Bk.row ho (va .u8 D)
  have hbl := below_row hl hs4 (va .u8 D)
  generalize w5.setRow g (va .u8 D) = w6 at hst hbl ⊢
  have hf := fourk_any w6 (Own.of_bk (k := .u8) (base := 0) hst (Nat.zero_le _) lD (by omega)).rd D8 (by omega)
  have hb6 := hbl.size
  rw [← hD, ← HC0.out] at hf
  go_wp2_with (go_at_call 63; refine hf.mono ?_; rintro e w7 ⟨rfl, b7⟩)
  go_ret
  exact ⟨rfl, hbl.trans (b7.mono (by omega))⟩
theorem bound_any (w : World) {a b d n c0 : Nat} {A0 : Option Addr} {fc : List Nat} (ha : a < 4294967296) (hb : b < 4294967296) (hd : d < 4294967296) (hfc : Rd .u8 w A0 n c0 fc) (f8 : B8 fc) (hn : n < 1000000) (hA0 : ∀ ad, A0 = some ad → ad.block < w.heap.size) :
    Calls Try.prog 48 #[.int .u32 (a : Int), .int .u32 (b : Int), .int .u32 (d : Int), .slice A0 n c0] w fun e w' => e = .returned (.int .u32 ((be4 (shaN (numL [a, b, 1, d] ++ fc)) 0 : Nat) : Int)) ∧ Below w.heap.size w w' := by
  have hc : 1 < 4294967296 := by omega
  go_enter Try.func48, Try.ntmps48
  go_upto_region 1 with (fail)
  refine wp_region_lit ?_
  iterate 4 (refine wpList_plain rfl (fun K hK => ?_); go_simp; refine hK _ _ ?_; clear hK K)
  obtain ⟨c, hc0⟩ : ∃ z : Nat, 1 = z := ⟨_, rfl⟩
  rw [show Obj.cells #[.int .u32 (a : Int), .int .u32 (b : Int), .int .u32 1, .int .u32 (d : Int)] 41 = Obj.cells #[.int .u32 (a : Int), .int .u32 (b : Int), .int .u32 ((c : Nat) : Int), .int .u32 (d : Int)] 41 by rw [← hc0]; rfl]
  rw [hc0] at hc
  have HC0 := Lib.hid hc0
  clear hc0
  rw [show Obj.cells #[.int .u32 (a : Int), .int .u32 (b : Int), .int .u32 ((c : Nat) : Int), .int .u32 (d : Int)] 41 = Obj.cells (va .u32 [a, b, c, d]) 41 from rfl]
  have hr := row4 w a b c d
  have hb1 := (Below.refl w.heap.size w).alloc (Nat.le_refl _) (.cells (va .u32 [a, b, c, d]) 41)
  generalize w.alloc (.cells (va .u32 [a, b, c, d]) 41) = w1 at hr hb1 ⊢
  have hs1 := hb1.size
  refine wpl_call rfl (w' := w1) (f := 62) (args := #[.slice (some ⟨w.heap.size, 0, none⟩) 4 4]) (by kernel_rfl) (numbers_any w1 hr (b32_four ha hb hc hd) (by omega)) ?_
  rintro e w2 ⟨A2, c2, rfl, o2, b2⟩
  refine ⟨_, rfl, ?_⟩
  have hs2 := b2.size
  have hbb := hb1.trans (b2.mono hs1)
  (refine wpList_plain rfl (fun K hK => ?_); go_simp; refine hK _ _ ?_; clear hK K)
  obtain ⟨D, hD⟩ : ∃ z, shaN (numL [a, b, c, d] ++ fc) = z := ⟨_, rfl⟩
  have lD : D.length = 32 := by rw [← hD]; exact shaN_length _
  have D8 : B8 D := by rw [← hD]; exact shaN_b8 _
  have hS := ky_any w2 (a := numL [a, b, c, d]) o2.rd (numL_b8 _) (fun ad e => by
    obtain ⟨g, h, _, h3⟩ := o2.blk (by omega)
    rw [h] at e; cases e; exact h3) (hfc.below hbb) f8 (by omega) (fun ad e => by have := hA0 ad e; omega)
  rw [hD] at hS
  refine wpl_call rfl (w' := w2) (f := 26) (args := #[.slice A2 16 c2, .slice A0 n c0]) (by kernel_rfl) hS ?_
  rintro e w4 ⟨rfl, b4⟩
  refine ⟨_, rfl, ?_⟩
  have h4 := hbb.trans (b4.mono (by omega))
  (refine wpList_plain rfl (fun K hK => ?_); go_simp; refine hK _ _ ?_; clear hK K)
  rw [show Obj.cells #[.int .u8 0, .int .u8 0, .int .u8 0, .int .u8 0, .int .u8 0, .int .u8 0, .int .u8 0, .int .u8 0, .int .u8 0, .int .u8 0, .int .u8 0, .int .u8 0, .int .u8 0, .int .u8 0, .int .u8 0, .int .u8 0, .int .u8 0, .int .u8 0, .int .u8 0, .int .u8 0, .int .u8 0, .int .u8 0, .int .u8 0, .int .u8 0, .int .u8 0, .int .u8 0, .int .u8 0, .int .u8 0, .int .u8 0, .int .u8 0, .int .u8 0, .int .u8 0] 26 = Obj.cells (va .u8 (List.replicate 32 0)) 26 from rfl]
  have ho := Bk.new w4 26 (va .u8 (List.replicate 32 0))
  have hl := h4.alloc h4.size (.cells (va .u8 (List.replicate 32 0)) 26)
  have hs4 := h4.size
  generalize w4.alloc (.cells (va .u8 (List.replicate 32 0)) 26) = w5 at ho hl ⊢
  obtain ⟨g, hg⟩ : ∃ g, w4.heap.size = g := ⟨_, rfl⟩
  rw [hg] at ho hs4 ⊢
  refine wpList_store_row rfl 26 _ _ rfl g (va .u8 D) (by kernel_rfl) (by kernel_rfl) 26 (va .u8 (List.replicate 32 0)) ho (out_info.trans (by rw [va_size, lD])) (by rw [va_size, va_size, lD, List.length_replicate]) (va_all _ _) ?_
  refine wpList_nil ?_
  have hst := Bk.row ho (va .u8 D)
  have hbl := below_row hl hs4 (va .u8 D)
  generalize w5.setRow g (va .u8 D) = w6 at hst hbl ⊢
  have hf := fourk_any w6 (Own.of_bk (k := .u8) (base := 0) hst (Nat.zero_le _) lD (by omega)).rd D8 (by omega)
  have hb6 := hbl.size
  rw [← hD, ← HC0.out] at hf
  go_wp2_with (go_at_call 63; refine hf.mono ?_; rintro e w7 ⟨rfl, b7⟩)
  go_ret
  exact ⟨rfl, hbl.trans (b7.mono (by omega))⟩
theorem mac_any (w : World) {k f : List Nat} {A B : Option Addr} {n c m d : Nat} (hk : Rd .u8 w A n c k) (k8 : B8 k) (hA : ∀ ad, A = some ad → ad.block < w.heap.size) (hf : Rd .u8 w B m d f) (f8 : B8 f) (hB : ∀ ad, B = some ad → ad.block < w.heap.size) (hlen : n + m < 1000000) :
    Calls Try.prog 41 #[.slice A n c, .slice B m d] w fun e w' => ∃ g, e = .returned (.slice (some ⟨g, 0, none⟩) 16 16) ∧ Bk w' g 26 (va .u8 (shaN (k ++ f))) ∧ w.heap.size ≤ g ∧ Below w.heap.size w w' := by
  obtain ⟨D, hD⟩ : ∃ z, shaN (k ++ f) = z := ⟨_, rfl⟩
  have lD : D.length = 32 := by rw [← hD]; exact shaN_length _
  have hS := ky_any w hk k8 hA hf f8 (by omega) hB
  rw [hD] at hS
  rw [hD]
  go_enter Try.func41, Try.ntmps41
  go_upto_region 1 with (fail)
  refine wp_region_lit ?_
  (refine wpList_plain rfl (fun K hK => ?_); go_simp; refine hK _ _ ?_; clear hK K)
  (refine wpList_plain rfl (fun K hK => ?_); go_simp; refine hK _ _ ?_; clear hK K)
  refine wpl_call rfl (w' := w) (f := 26) (args := #[.slice A n c, .slice B m d]) (by kernel_rfl) hS ?_
  rintro e w4 ⟨rfl, h4⟩
  refine ⟨_, rfl, ?_⟩
  (refine wpList_plain rfl (fun K hK => ?_); go_simp; refine hK _ _ ?_; clear hK K)
  rw [show Obj.cells #[.int .u8 0, .int .u8 0, .int .u8 0, .int .u8 0, .int .u8 0, .int .u8 0, .int .u8 0, .int .u8 0, .int .u8 0, .int .u8 0, .int .u8 0, .int .u8 0, .int .u8 0, .int .u8 0, .int .u8 0, .int .u8 0, .int .u8 0, .int .u8 0, .int .u8 0, .int .u8 0, .int .u8 0, .int .u8 0, .int .u8 0, .int .u8 0, .int .u8 0, .int .u8 0, .int .u8 0, .int .u8 0, .int .u8 0, .int .u8 0, .int .u8 0, .int .u8 0] 26 = Obj.cells (va .u8 (List.replicate 32 0)) 26 from rfl]
  have ho := Bk.new w4 26 (va .u8 (List.replicate 32 0))
  have hl := h4.alloc h4.size (.cells (va .u8 (List.replicate 32 0)) 26)
  have hs4 := h4.size
  generalize w4.alloc (.cells (va .u8 (List.replicate 32 0)) 26) = w5 at ho hl ⊢
  obtain ⟨g, hg⟩ : ∃ g, w4.heap.size = g := ⟨_, rfl⟩
  rw [hg] at ho hs4 ⊢
  refine wpList_store_row rfl 26 _ _ rfl g (va .u8 D) (by kernel_rfl) (by kernel_rfl) 26 (va .u8 (List.replicate 32 0)) ho (out_info.trans (by rw [va_size, lD])) (by rw [va_size, va_size, lD, List.length_replicate]) (va_all _ _) ?_
  refine wpList_nil ?_
  have hst := Bk.row ho (va .u8 D)
  have hbl := below_row hl hs4 (va .u8 D)
  generalize w5.setRow g (va .u8 D) = w6 at hst hbl ⊢
  go_wp2_with fail
  go_ret
  exact ⟨g, rfl, hst, hs4, hbl⟩
end Go.Proofs.Ytiimflmbcgnbeaa

/- Session keys, key numbers, cookies and sums: the document's functions. -/
namespace Go.Proofs.Ytiimflmbcgnbeaa
set_option linter.unusedSimpArgs false
set_option linter.unusedVariables false
open Go.RowKit Go.Proofs.YtiimflmbcgnbeaaW.PrintWords

theorem rnum_any (w : World) {a b c d : Nat} (ha : a < 4294967296) (hb : b < 4294967296) (hc : c < 4294967296) (hd : d < 4294967296) :
    Calls Try.prog 61 #[.int .u32 (a : Int), .int .u32 (b : Int), .int .u32 (c : Int), .int .u32 (d : Int)] w fun e w' => ∃ A' c', e = .returned (.slice A' 16 c') ∧ Own .u8 5 w' w.heap.size A' 16 c' (numL [a, b, c, d]) ∧ Below w.heap.size w w' := by
  go_enter Try.func61, Try.ntmps61
  go_upto_region 1 with (fail)
  refine wp_region_lit ?_
  (refine wpList_plain rfl (fun K hK => ?_); go_simp; refine hK _ _ ?_; clear hK K)
  refine wpl_call rfl (w' := w) (f := 59) (args := #[.int .u32 (a : Int)]) (by kernel_rfl) (rfour_any w ha) ?_
  rintro e w1 ⟨A1, c1, rfl, o1, b1⟩
  refine ⟨_, rfl, ?_⟩
  have h1 := b1.size
  (refine wpList_plain rfl (fun K hK => ?_); go_simp; refine hK _ _ ?_; clear hK K)
  refine wpl_call rfl (w' := w1) (f := 59) (args := #[.int .u32 (b : Int)]) (by kernel_rfl) (rfour_any w1 hb) ?_
  rintro e w2 ⟨A2, c2, rfl, o2, b2⟩
  refine ⟨_, rfl, ?_⟩
  have h2 := b2.size
  refine wpl_call rfl (w' := w2) (f := 19) (args := #[.slice A1 4 c1, .slice A2 4 c2]) (by kernel_rfl) (rjoin_any w2 (o1.below b2).rd o2.rd (by omega)) ?_
  rintro e w3 ⟨A3, c3, rfl, o3, b3⟩
  refine ⟨_, rfl, ?_⟩
  have h3 := b3.size
  have B3 := Lib.hid ((b1.trans (b2.mono h1)).trans (b3.mono (by omega)))
  have O3 := Lib.hid o3
  clear o1 o2 o3 b1 b2 b3
  go_upto_region 2 with (fail)
  refine wp_region_lit ?_
  (refine wpList_plain rfl (fun K hK => ?_); go_simp; refine hK _ _ ?_; clear hK K)
  (refine wpList_plain rfl (fun K hK => ?_); go_simp; refine hK _ _ ?_; clear hK K)
  refine wpl_call rfl (w' := w3) (f := 59) (args := #[.int .u32 (c : Int)]) (by kernel_rfl) (rfour_any w3 hc) ?_
  rintro e w4 ⟨A4, c4, rfl, o4, b4⟩
  refine ⟨_, rfl, ?_⟩
  have h4 := b4.size
  (refine wpList_plain rfl (fun K hK => ?_); go_simp; refine hK _ _ ?_; clear hK K)
  refine wpl_call rfl (w' := w4) (f := 59) (args := #[.int .u32 (d : Int)]) (by kernel_rfl) (rfour_any w4 hd) ?_
  rintro e w5 ⟨A5, c5, rfl, o5, b5⟩
  refine ⟨_, rfl, ?_⟩
  have h5 := b5.size
  refine wpl_call rfl (w' := w5) (f := 19) (args := #[.slice A4 4 c4, .slice A5 4 c5]) (by kernel_rfl) (rjoin_any w5 (o4.below b5).rd o5.rd (by omega)) ?_
  rintro e w6 ⟨A6, c6, rfl, o6, b6⟩
  refine ⟨_, rfl, ?_⟩
  have h6 := b6.size
  refine wpl_call rfl (w' := w6) (f := 19) (args := #[.slice A3 8 c3, .slice A6 8 c6]) (by kernel_rfl) (rjoin_any w6 (((O3.out.below b4).below b5).below b6).rd o6.rd (by omega)) ?_
  rintro e w7 ⟨A7, c7, rfl, o7, b7⟩
  refine ⟨_, rfl, ?_⟩
  have hb := (((B3.out.trans (b4.mono (by omega))).trans (b5.mono (by omega))).trans (b6.mono (by omega))).trans (b7.mono (by omega))
  go_wp2_with fail
  go_ret
  refine ⟨A7, c7, rfl, ?_, hb⟩
  rw [show numL [a, b, c, d] = four4 a ++ four4 b ++ (four4 c ++ four4 d) by simp [numL]]
  exact o7.lower (by omega)
theorem rsession_any (w : World) {a b c d : Nat} (ha : a < 4294967296) (hb : b < 4294967296) (hc : c < 4294967296) (hd : d < 4294967296) :
    Calls Try.prog 40 #[.int .u32 (a : Int), .int .u32 (b : Int), .int .u32 (c : Int), .int .u32 (d : Int)] w fun e w' => ∃ A' c', e = .returned (.slice A' 16 c') ∧ Rd .u8 w' A' 16 c' (sessN a b c d) ∧ (∀ ad, A' = some ad → ad.block < w'.heap.size) ∧ Below w.heap.size w w' := by
  obtain ⟨D, hD⟩ : ∃ z, shaN (numL [a, b, c, d]) = z := ⟨_, rfl⟩
  have lD : D.length = 32 := by rw [← hD]; exact shaN_length _
  have hS : D.take 16 = sessN a b c d := by rw [← hD]; rfl
  have hN := rnum_any w ha hb hc hd
  have HD := Lib.hid hD
  clear hD
  go_enter Try.func40, Try.ntmps40
  go_upto_region 1 with (fail)
  refine wp_region_lit ?_
  iterate 4 (refine wpList_plain rfl (fun K hK => ?_); go_simp; refine hK _ _ ?_; clear hK K)
  refine wpl_call rfl (w' := w) (f := 61) (args := #[.int .u32 (a : Int), .int .u32 (b : Int), .int .u32 (c : Int), .int .u32 (d : Int)]) (by kernel_rfl) hN ?_
  rintro e w1 ⟨A1, c1, rfl, o1, b1⟩
  refine ⟨_, rfl, ?_⟩
  have h1 := b1.size
  have hR := refSum_any w1 o1.rd (numL_b8 _) (by omega)
  rw [HD.out] at hR
  refine wpl_call rfl (w' := w1) (f := 21) (args := #[.slice A1 16 c1]) (by kernel_rfl) hR ?_
  rintro e w2 ⟨rfl, b2⟩
  refine ⟨_, rfl, ?_⟩
  refine wpl_call rfl (w' := w2) (f := 58) (args := #[.agg (va .u8 D)]) (by kernel_rfl) (rslice_any w2 lD) ?_
  rintro e w3 ⟨A3, c3, rfl, o3, b3⟩
  refine ⟨_, rfl, ?_⟩
  have h2 := b2.size
  have hb3 := (b1.trans (b2.mono h1)).trans (b3.mono (by omega))
  have hcap := o3.rd.cap
  have x1 : (16 : Int) ≤ (c3 : Int) := by omega
  have x2 : 16 ≤ c3 := by omega
  go_wp2_with fail
  go_ret
  refine ⟨A3, c3, rfl, ?_, fun ad e => ?_, hb3⟩
  · rw [← hS]; exact o3.rd.take (by omega)
  · obtain ⟨g, h, _, h3⟩ := o3.blk (by omega)
    rw [h] at e; cases e; exact h3
theorem rfourk_any (w : World) {A : Option Addr} {n c : Nat} {b : List Nat} (hb : Rd .u8 w A n c b) (b8 : B8 b) (hn : 4 ≤ n) :
    Calls Try.prog 64 #[.slice A n c] w fun e w' => e = .returned (.int .u32 ((be4 b 0 : Nat) : Int)) ∧ Below w.heap.size w w' := by
  obtain ⟨ad, rfl, hab, hac⟩ := hb.form (by omega)
  obtain ⟨b0, e0⟩ : ∃ z, gd b 0 = z := ⟨_, rfl⟩
  obtain ⟨b1, e1⟩ : ∃ z, gd b 1 = z := ⟨_, rfl⟩
  obtain ⟨b2, e2⟩ : ∃ z, gd b 2 = z := ⟨_, rfl⟩
  obtain ⟨b3, e3⟩ : ∃ z, gd b 3 = z := ⟨_, rfl⟩
  have q0 := b8.gd 0
  have q1 := b8.gd 1
  have q2 := b8.gd 2
  have q3 := b8.gd 3
  rw [e0] at q0
  rw [e1] at q1
  rw [e2] at q2
  rw [e3] at q3
  have HE := Lib.hid (show be4 b 0 = b0 * 16777216 + b1 * 65536 + b2 * 256 + b3 by unfold be4; rw [← e0, ← e1, ← e2, ← e3])
  have HAC := Lib.hid hac
  have B8' := Lib.hid b8
  have hstep : ∀ (t v : Nat), t < 4 → v = be4 b 0 / 256 ^ (4 - t) → (256 * v + gd b t) % 4294967296 = be4 b 0 / 256 ^ (4 - (t + 1)) := by
    intro t v ht hv
    rw [HE.out] at hv ⊢
    match t, ht with
    | 0, _ => rw [e0]; simp at hv ⊢; omega
    | 1, _ => rw [e1]; simp at hv ⊢; omega
    | 2, _ => rw [e2]; simp at hv ⊢; omega
    | 3, _ => rw [e3]; simp at hv ⊢; omega
  have HSTEP := Lib.hid hstep
  have hlt := be4_lt b8 0
  have HLT := Lib.hid hlt
  clear hac b8 hstep hlt e0 e1 e2 e3
  go_enter Try.func64, Try.ntmps64
  go_wp2_with fail
  go_loopw [3, 4] (fun o i wr => ∃ (t v : Nat), t ≤ 4 ∧ i = .int .i64 (t : Int) ∧ o = .int .u32 (v : Int) ∧ v = be4 b 0 / 256 ^ (4 - t) ∧ wr = w) (fun _ i _ => 4 - (intOf i).toNat)
  case atStart => exact ⟨0, 0, by omega, rfl, rfl, by
    have := HLT.out
    rw [Nat.div_eq_of_lt]; simpa using this, rfl⟩
  case round =>
    obtain ⟨t, v, ht, rfl, rfl, hv, rfl⟩ := hrel
    have HV := Lib.hid hv
    clear hv
    by_cases hlt : t < 4
    · obtain ⟨x, ex⟩ : ∃ z, gd b t = z := ⟨_, rfl⟩
      have cx := HAC.out t (by omega)
      rw [ex] at cx
      have lx : x < 256 := by rw [← ex]; exact B8'.out.gd t
      have hs := HSTEP.out t v hlt HV.out
      rw [ex] at hs
      obtain ⟨y, hy⟩ : ∃ z, (256 * v + x) % 4294967296 = z := ⟨_, rfl⟩
      rw [hy] at hs
      have HS := Lib.hid hs
      have k1 : IntKind.u32.wrap (x : Int) = (x : Int) := u32w (by omega)
      obtain ⟨z, hz⟩ : ∃ z, 256 * v % 4294967296 = z := ⟨_, rfl⟩
      have k2 : IntKind.u32.wrap (256 * (v : Int)) = (z : Int) := by rw [IntKind.wrap_u32]; omega
      have k3 : IntKind.u32.wrap ((z : Int) + (x : Int)) = (y : Int) := by rw [IntKind.wrap_u32]; omega
      have a1 : (t : Int) < (n : Int) := by omega
      have a0 : (0 : Int) ≤ (t : Int) := by omega
      have a4 : (t : Int) < 4 := by omega
      have i1 : IntKind.i64.wrap ((t : Int) + 1) = (t : Int) + 1 := IntWalk.i64_in _ (by omega)
      clear ex hs hy hz
      go_wp2_with fail
      exact ⟨⟨t + 1, y, by omega, by go_num, rfl, HS.out, trivial⟩, by simp [intOf]; omega⟩
    · obtain rfl : t = 4 := by omega
      have hv := HV.out
      simp at hv
      clear HV
      subst hv
      rw [show ((4 : Nat) : Int) = (4 : Int) from rfl]
      go_wp2_with fail
      go_ret
      exact ⟨rfl, Below.refl _ _⟩
theorem rnext_any (w : World) {a b c d : Nat} (ha : a < 4294967296) (hb : b < 4294967296) (hc : c < 4294967296) (hd : d < 4294967296) :
    Calls Try.prog 45 #[.int .u32 (a : Int), .int .u32 (b : Int), .int .u32 (c : Int), .int .u32 (d : Int)] w fun e w' => e = .returned (.int .u32 ((nextN a b c d : Nat) : Int)) ∧ Below w.heap.size w w' := by
  have hS := rsession_any w ha hb hc hd
  go_enter Try.func45, Try.ntmps45
  go_wp2_with (first
    | (go_at_call 40; refine hS.mono ?_; rintro e w1 ⟨A1, c1, rfl, r1, _, b1⟩)
    | (go_at_call 64; refine (rfourk_any _ r1 (sessN_b8 a b c d) (by omega)).mono ?_; rintro e w2 ⟨rfl, b2⟩))
  go_ret
  exact ⟨rfl, b1.trans (b2.mono b1.size)⟩
theorem rcookie_any (w : World) {a b d : Nat} (ha : a < 4294967296) (hb : b < 4294967296) (hd : d < 4294967296) :
    Calls Try.prog 47 #[.int .u32 (a : Int), .int .u32 (b : Int), .int .u32 (d : Int)] w fun e w' => e = .returned (.int .u32 ((be4 (shaN (numL [a, b, 0, d])) 0 : Nat) : Int)) ∧ Below w.heap.size w w' := by
  have hN := rnum_any w ha hb (show 0 < 4294967296 by omega) hd
  obtain ⟨D, hD⟩ : ∃ z, shaN (numL [a, b, 0, d]) = z := ⟨_, rfl⟩
  have lD : D.length = 32 := by rw [← hD]; exact shaN_length _
  have D8 : B8 D := by rw [← hD]; exact shaN_b8 _
  rw [show ((0 : Nat) : Int) = 0 from rfl] at hN
  rw [hD]
  have HD := Lib.hid hD
  clear hD
  go_enter Try.func47, Try.ntmps47
  go_upto_region 1 with (fail)
  refine wp_region_lit ?_
  iterate 3 (refine wpList_plain rfl (fun K hK => ?_); go_simp; refine hK _ _ ?_; clear hK K)
  refine wpl_call rfl (w' := w) (f := 61) (args := #[.int .u32 (a : Int), .int .u32 (b : Int), .int .u32 0, .int .u32 (d : Int)]) (by kernel_rfl) hN ?_
  rintro e w1 ⟨A1, c1, rfl, o1, b1⟩
  refine ⟨_, rfl, ?_⟩
  have h1 := b1.size
  have hR := refSum_any w1 o1.rd (numL_b8 _) (by omega)
  rw [HD.out] at hR
  refine wpl_call rfl (w' := w1) (f := 21) (args := #[.slice A1 16 c1]) (by kernel_rfl) hR ?_
  rintro e w2 ⟨rfl, b2⟩
  refine ⟨_, rfl, ?_⟩
  have h2 := b2.size
  refine wpl_call rfl (w' := w2) (f := 58) (args := #[.agg (va .u8 D)]) (by kernel_rfl) (rslice_any w2 lD) ?_
  rintro e w3 ⟨A3, c3, rfl, o3, b3⟩
  refine ⟨_, rfl, ?_⟩
  have h3 := b3.size
  refine wpl_call rfl (w' := w3) (f := 64) (args := #[.slice A3 32 c3]) (by kernel_rfl) (rfourk_any w3 o3.rd D8 (by omega)) ?_
  rintro e w4 ⟨rfl, b4⟩
  refine ⟨_, rfl, ?_⟩
  have hb := ((b1.trans (b2.mono h1)).trans (b3.mono (by omega))).trans (b4.mono (by omega))
  go_wp2_with fail
  go_ret
  exact ⟨rfl, hb⟩
theorem rbound_any (w : World) {a b d n c0 : Nat} {A0 : Option Addr} {fc : List Nat} (ha : a < 4294967296) (hb : b < 4294967296) (hd : d < 4294967296) (hfc : Rd .u8 w A0 n c0 fc) (f8 : B8 fc) (hn : n < 1000000) :
    Calls Try.prog 49 #[.int .u32 (a : Int), .int .u32 (b : Int), .int .u32 (d : Int), .slice A0 n c0] w fun e w' => e = .returned (.int .u32 ((be4 (shaN (numL [a, b, 1, d] ++ fc)) 0 : Nat) : Int)) ∧ Below w.heap.size w w' := by
  have hN := rnum_any w ha hb (show 1 < 4294967296 by omega) hd
  obtain ⟨D, hD⟩ : ∃ z, shaN (numL [a, b, 1, d] ++ fc) = z := ⟨_, rfl⟩
  have lD : D.length = 32 := by rw [← hD]; exact shaN_length _
  have D8 : B8 D := by rw [← hD]; exact shaN_b8 _
  rw [show ((1 : Nat) : Int) = 1 from rfl] at hN
  rw [hD]
  have HD := Lib.hid hD
  clear hD
  go_enter Try.func49, Try.ntmps49
  go_upto_region 1 with (fail)
  refine wp_region_lit ?_
  iterate 3 (refine wpList_plain rfl (fun K hK => ?_); go_simp; refine hK _ _ ?_; clear hK K)
  refine wpl_call rfl (w' := w) (f := 61) (args := #[.int .u32 (a : Int), .int .u32 (b : Int), .int .u32 1, .int .u32 (d : Int)]) (by kernel_rfl) hN ?_
  rintro e w1 ⟨A1, c1, rfl, o1, b1⟩
  refine ⟨_, rfl, ?_⟩
  have h1 := b1.size
  (refine wpList_plain rfl (fun K hK => ?_); go_simp; refine hK _ _ ?_; clear hK K)
  refine wpl_call rfl (w' := w1) (f := 19) (args := #[.slice A1 16 c1, .slice A0 n c0]) (by kernel_rfl) (rjoin_any w1 o1.rd (hfc.below b1) (by omega)) ?_
  rintro e w1b ⟨A1b, c1b, rfl, o1b, b1b⟩
  refine ⟨_, rfl, ?_⟩
  have h1b := b1b.size
  have hR := refSum_any w1b o1b.rd ((numL_b8 _).append f8) (by omega)
  rw [HD.out] at hR
  refine wpl_call rfl (w' := w1b) (f := 21) (args := #[.slice A1b (16 + n) c1b]) (by kernel_rfl) hR ?_
  rintro e w2 ⟨rfl, b2⟩
  refine ⟨_, rfl, ?_⟩
  have h2 := b2.size
  refine wpl_call rfl (w' := w2) (f := 58) (args := #[.agg (va .u8 D)]) (by kernel_rfl) (rslice_any w2 lD) ?_
  rintro e w3 ⟨A3, c3, rfl, o3, b3⟩
  refine ⟨_, rfl, ?_⟩
  have h3 := b3.size
  refine wpl_call rfl (w' := w3) (f := 64) (args := #[.slice A3 32 c3]) (by kernel_rfl) (rfourk_any w3 o3.rd D8 (by omega)) ?_
  rintro e w4 ⟨rfl, b4⟩
  refine ⟨_, rfl, ?_⟩
  have hb := (((b1.trans (b1b.mono h1)).trans (b2.mono (by omega))).trans (b3.mono (by omega))).trans (b4.mono (by omega))
  go_wp2_with fail
  go_ret
  exact ⟨rfl, hb⟩
theorem rmac_any (w : World) {k f : List Nat} {A B : Option Addr} {n c m d : Nat} (hk : Rd .u8 w A n c k) (k8 : B8 k) (hf : Rd .u8 w B m d f) (f8 : B8 f) (hlen : n + m < 1000000) :
    Calls Try.prog 39 #[.slice A n c, .slice B m d] w fun e w' => ∃ A' c', e = .returned (.slice A' 16 c') ∧ Rd .u8 w' A' 16 c' ((shaN (k ++ f)).take 16) ∧ Below w.heap.size w w' := by
  obtain ⟨D, hD⟩ : ∃ z, shaN (k ++ f) = z := ⟨_, rfl⟩
  have lD : D.length = 32 := by rw [← hD]; exact shaN_length _
  have hS := rkeyed_any w hk k8 hf f8 (by omega)
  rw [hD] at hS
  rw [hD]
  go_enter Try.func39, Try.ntmps39
  go_upto_region 1 with (fail)
  refine wp_region_lit ?_
  (refine wpList_plain rfl (fun K hK => ?_); go_simp; refine hK _ _ ?_; clear hK K)
  (refine wpList_plain rfl (fun K hK => ?_); go_simp; refine hK _ _ ?_; clear hK K)
  refine wpl_call rfl (w' := w) (f := 30) (args := #[.slice A n c, .slice B m d]) (by kernel_rfl) hS ?_
  rintro e w2 ⟨rfl, b2⟩
  refine ⟨_, rfl, ?_⟩
  refine wpl_call rfl (w' := w2) (f := 58) (args := #[.agg (va .u8 D)]) (by kernel_rfl) (rslice_any w2 lD) ?_
  rintro e w3 ⟨A3, c3, rfl, o3, b3⟩
  refine ⟨_, rfl, ?_⟩
  have h2 := b2.size
  have hb3 := b2.trans (b3.mono h2)
  have hcap := o3.rd.cap
  have x1 : (16 : Int) ≤ (c3 : Int) := by omega
  have x2 : 16 ≤ c3 := by omega
  go_wp2_with fail
  go_ret
  exact ⟨A3, c3, rfl, o3.rd.take (by omega), hb3⟩
end Go.Proofs.Ytiimflmbcgnbeaa

/- A key number and the next ones: the iterator. -/
namespace Go.Proofs.Ytiimflmbcgnbeaa
set_option linter.unusedSimpArgs false
set_option linter.unusedVariables false
open Go.RowKit
attribute [local go_sem] Oper.semAt_some

theorem rounds_of {F : Fence} {n : Nat} {P : Program} {c : Code} {Q : Exit → Act → World → Prop} (I : Nat → Act → World → Prop) (h0 : ∀ a w, I 0 a w → False) (hs : ∀ m a w, I (m + 1) a w → c.wpIn F n P (Exit.then (I m) Q) a w) : ∀ m a w, I m a w → Code.roundsIn F n P c Q m a w
  | 0, a, w, h => (h0 a w h).elim
  | m + 1, a, w, h => by
    rw [roundsIn_succ]
    refine wpIn_mono (hs m a w h) ?_
    intro e a' w' hq
    cases e with
    | normal => exact rounds_of I h0 hs m a' w' hq
    | _ => exact hq
/-- the k-th number behind c -/
def kchN (a b c d : Nat) : Nat → Nat
  | 0 => c
  | k + 1 => nextN a b (kchN a b c d k) d
theorem kchN_lt {a b c d : Nat} (hc : c < 4294967296) (k : Nat) : kchN a b c d k < 4294967296 := by
  cases k with
  | zero => exact hc
  | succ k => exact nextN_lt _ _ _ _
theorem chain_maker (w : World) (a b c d : Nat) : Calls Try.prog 60 #[.int .u32 (a : Int), .int .u32 (b : Int), .int .u32 (c : Int), .int .u32 (d : Int)] w fun e w' => e = .returned (.func (.func 68) #[] #[.pointer (some ⟨w.heap.size + 2, 0, none⟩), .pointer (some ⟨w.heap.size, 0, none⟩), .pointer (some ⟨w.heap.size + 1, 0, none⟩), .pointer (some ⟨w.heap.size + 3, 0, none⟩)]) ∧
    w' = (((w.alloc (.cells #[.int .u32 (a : Int)] 41)).alloc (.cells #[.int .u32 (b : Int)] 41)).alloc (.cells #[.int .u32 (c : Int)] 41)).alloc (.cells #[.int .u32 (d : Int)] 41) := by
  go_enter Try.func60, Try.ntmps60
  go_wp2
  exact bodyPost_ret (by simp [results, Try.results60, go_sem]) rfl ⟨rfl, rfl⟩
/-- the boxes of the iterator -/
def Boxes (W : World) (s a b x d : Nat) : Prop := Bk W s 41 #[.int .u32 (a : Int)] ∧ Bk W (s + 1) 41 #[.int .u32 (b : Int)] ∧ Bk W (s + 2) 41 #[.int .u32 (x : Int)] ∧ Bk W (s + 3) 41 #[.int .u32 (d : Int)]
theorem Boxes.kept {W W' : World} {s a b x d : Nat} (h : Boxes W s a b x d) (hk : ∀ k, s ≤ k → k < s + 4 → W'.heap[k]? = W.heap[k]?) : Boxes W' s a b x d :=
  ⟨(hk s (by omega) (by omega)).trans h.1, (hk (s + 1) (by omega) (by omega)).trans h.2.1, (hk (s + 2) (by omega) (by omega)).trans h.2.2.1, (hk (s + 3) (by omega) (by omega)).trans h.2.2.2⟩
theorem Boxes.below {W W' : World} {s a b x d : Nat} (h : Boxes W s a b x d) (hb : Below W.heap.size W W') : Boxes W' s a b x d :=
  ⟨h.1.below hb h.1.lt, h.2.1.below hb h.2.1.lt, h.2.2.1.below hb h.2.2.1.lt, h.2.2.2.below hb h.2.2.2.lt⟩
set_option maxRecDepth 100000 in
theorem chain_gives (n : Nat) (hn : 1 ≤ n) (w : World) {s a b c d : Nat} (ha : a < 4294967296) (hb : b < 4294967296) (hc : c < 4294967296) (hd : d < 4294967296) (hB : Boxes w s a b c d) :
    EndlessSeq Fence.wide n Try.prog 68 #[.pointer (some ⟨s + 2, 0, none⟩), .pointer (some ⟨s, 0, none⟩), .pointer (some ⟨s + 1, 0, none⟩), .pointer (some ⟨s + 3, 0, none⟩)] (fun x : Nat => #[.int .u32 (x : Int)]) (fun pre x => x = kchN a b c d pre.length) (s + 2) s (s + 4) w := by
  intro l N J Jx W hW hJ hN hY h0
  have hBW := hB.below hW
  refine callsIn_of_wp Try.func68 rfl trivial ?_ rfl
  simp only [Try.ntmps68, List.size_toArray, List.length_cons, List.length_nil, Nat.reduceAdd, Nat.reduceSub, Array.replicate_succ, Array.replicate_zero, List.push_toArray, List.append_toArray, List.nil_append, List.cons_append]
  gi_wp2
  refine wpIn_loop_rounds N ?_
  refine rounds_of (fun m a' w' => ∃ (pre : List Nat) (v5 v6 v7 v8 v9 v10 v11 v12 v13 : Value), a' = { tmps := #[.func (.yield l) #[] #[], .pointer (some ⟨s + 2, 0, none⟩), .pointer (some ⟨s, 0, none⟩), .pointer (some ⟨s + 1, 0, none⟩), .pointer (some ⟨s + 3, 0, none⟩), v5, v6, v7, v8, v9, v10, v11, v12, v13], defers := [] } ∧ J pre w' ∧ Boxes w' s a b (kchN a b c d pre.length) d ∧ N ≤ pre.length + m) ?_ ?_ N _ _ ⟨[], _, _, _, _, _, _, _, _, _, rfl, h0, hBW, by simp⟩
  · rintro a' w' ⟨pre, _, _, _, _, _, _, _, _, _, _, hj, _, hm⟩
    have := hN pre w' hj
    omega
  · rintro m a' w' ⟨pre, v5, v6, v7, v8, v9, v10, v11, v12, v13, rfl, hj, hbx, hm⟩
    obtain ⟨x, hx⟩ : ∃ z, kchN a b c d pre.length = z := ⟨_, rfl⟩
    obtain ⟨fn, tmps, assign, body, hy, hR⟩ := hY pre x w' hj hx.symm
    have lx : x < 4294967296 := by rw [← hx]; exact kchN_lt hc _
    rw [hx] at hbx
    have c1 : w'.cell? ⟨s + 2, 0, none⟩ = some (.int .u32 (x : Int)) := hbx.2.2.1.cell 0
    gi_wp2
    refine hR.mono ?_
    rintro e W' (⟨rfl, hj', hB'⟩ | ⟨rfl, hjx⟩)
    · have hbx' := hbx.kept hB'
      have d0 : W'.cell? ⟨s, 0, none⟩ = some (.int .u32 (a : Int)) := hbx'.1.cell 0
      have d1 : W'.cell? ⟨s + 1, 0, none⟩ = some (.int .u32 (b : Int)) := hbx'.2.1.cell 0
      have d2 : W'.cell? ⟨s + 2, 0, none⟩ = some (.int .u32 (x : Int)) := hbx'.2.2.1.cell 0
      have d3 : W'.cell? ⟨s + 3, 0, none⟩ = some (.int .u32 (d : Int)) := hbx'.2.2.2.cell 0
      have hnx := next_any W' ha hb lx hd
      gi_wp2
      refine ⟨trivial, (callsIn_wide.2 hnx).mono ?_⟩
      rintro e W2 ⟨rfl, b2⟩
      have hbx2 := hbx'.below b2
      have g2 : W2.cell? ⟨s + 2, 0, none⟩ = some (.int .u32 (x : Int)) := hbx2.2.2.1.cell 0
      have f2 := hbx2.2.2.1.frozen 0
      have j2 := hJ _ _ _ none hj' (grown_of_below b2 none) (fun r e => by cases e)
      have hnl := nextN_lt a b x d
      have hpl : (pre ++ [x]).length = pre.length + 1 := by simp
      have hk : kchN a b c d (pre ++ [x]).length = nextN a b x d := by rw [hpl]; show nextN a b (kchN a b c d pre.length) d = _; rw [hx]
      have HX := Lib.hid hx
      have HK := Lib.hid hk
      clear hx hk
      gi_wp2
      refine ⟨pre ++ [x], _, _, _, _, _, _, _, _, _, rfl, hJ _ _ _ (some (s + 2)) j2 (grown_box W2 (s + 2) _) (fun r e => by cases e; rfl), ?_, by rw [hpl]; omega⟩
      rw [HK.out]
      exact ⟨hbx2.1.far (by show s ≠ s + 2; omega) _, hbx2.2.1.far (by show s + 1 ≠ s + 2; omega) _, hbx2.2.2.1.set 0 _, hbx2.2.2.2.far (by show s + 3 ≠ s + 2; omega) _⟩
    · gi_wp2
      go_end0
      exact ⟨⟨_, rfl⟩, _, hjx⟩
end Go.Proofs.Ytiimflmbcgnbeaa

/- A list of key numbers: the walk. -/
namespace Go.Proofs.Ytiimflmbcgnbeaa
set_option linter.unusedSimpArgs false
set_option linter.unusedVariables false
open Go.RowKit
attribute [local go_sem] Oper.semAt_some

theorem wpListIn_append_rd {F : Fence} {n' : Nat} {P : Program} (w : World) {ops : Array Oper} {rest : List Oper} {o : Oper} {a : Act} {Q : Exit → Act → World → Prop} (hgd : o.guard = none) (s x : Operand) (t : TypeId)
    (hop : o.op = .call { callee := .builtin .append, args := #[s, x], argTypes := #[t, t] })
    (k : IntKind) (base : Nat) (e : TypeId) (i : TypeInfo) (z : Value) (bytes : Nat) (ht : P.underlying t = some (.slice e)) (hi : P.info? e = some i) (hz : i.zero = some z)
    (hsize : i.size = 1) (hby : i.bytes = bytes) (hzs : z.cells.size = 1)
    (A : Option Addr) (n c : Nat) (xs : List Nat) (hs : a.eval s = .slice A n c) (hown : Own k e w base A n c xs) (B : Option Addr) (m d : Nat) (ys : List Nat) (hx : a.eval x = .slice B m d) (hr : Rd k w B m d ys)
    (h63 : n + m ≤ maxLen) (hbytes : (n + m) * bytes ≤ 140737488355328) (hbase : base ≤ w.heap.size)
    (h : ∀ A' c' w', Own k e w' base A' (n + m) c' (xs ++ ys) → Below base w w' → w.heap.size ≤ w'.heap.size → (∀ g, g < w.heap.size → (∀ o, A ≠ some ⟨g, o, none⟩) → w'.heap[g]? = w.heap[g]?) → wpListIn F n' P ops Q rest (a.put o.dst (.slice A' (n + m) c')) w') : wpListIn F n' P ops Q (o :: rest) a w := by
  refine wpListIn_plain hgd fun K hK' => ?_
  obtain ⟨A', c', w', hrun, h2, h3, h4, h5⟩ := run_append_rd (P := P) w k base t o.type e i z bytes ht hi hz hsize hby hzs A n c xs hown B m d ys hr h63 hbytes hbase
  unfold Oper.wpIn
  refine ⟨?_, ?_⟩
  · simp [Oper.about, hop, resolve, Target.leads, Sem.run_pure]
  · rw [Oper.semAt_plain F _ _ (by rw [hop]; intro c hc'; cases hc')]
    simp [execOp, hop, resolve, invoke, builtin, hs, hx, hrun, Result.andThen]
    exact hK' _ _ (h A' c' w' h2 h3 h4 h5)
theorem append_keeps {k : IntKind} {e : TypeId} {w w' : World} {base n c : Nat} {A : Option Addr} {xs : List Nat} (ho : Own k e w base A n c xs) (hb : Below base w w') (hs : w.heap.size ≤ w'.heap.size) (hk : ∀ g, g < w.heap.size → (∀ o, A ≠ some ⟨g, o, none⟩) → w'.heap[g]? = w.heap[g]?) : KeepsOthers w w' := by
  refine KeepsOthers.of_grownBy (grown_append hb hs hk (fun ad e => by obtain ⟨g, h, _⟩ := ho.plain ad e; exact ⟨g, h⟩)) (fun j o hj hobj => ?_)
  rcases A with _ | ad
  · cases hj
  · obtain ⟨g, rfl, _⟩ := ho.plain ad rfl
    have := Option.some.inj hj
    simp only at this
    subst this
    obtain ⟨cs, hbk, _⟩ := ho.bk_any
    unfold Bk at hbk
    rw [hbk] at hobj
    cases hobj
    rfl
/-- what lies behind k rounds -/
def OutI (w : World) (B s0 n : Nat) (f : Nat → Nat) (k : Nat) (W : World) : Prop :=
  Bk W s0 3 #[.int .i64 (n : Int)] ∧ (∃ A c, Bk W (s0 + 1) 48 #[.slice A k c] ∧ Own .u32 41 W B A k c ((List.range k).map f)) ∧ Below s0 w W ∧ B ≤ W.heap.size
theorem OutI.kept {w W W' : World} {B s0 n k : Nat} {f : Nat → Nat} {row : Option Nat} (h : OutI w B s0 n f k W) (hs : s0 ≤ w.heap.size) (hg : W.grownBy W' row) (hr : ∀ r, row = some r → s0 + 1 < r ∧ (r < B ∨ ∃ o : Obj, W.heap[r]? = some o ∧ o.isCells = false)) : OutI w B s0 n f k W' := by
  obtain ⟨h1, ⟨A, c, h2, h3⟩, h4, h5⟩ := h
  refine ⟨(hg.block _ h1.lt (fun e => by have := (hr _ e.symm).1; omega)).trans h1, ⟨A, c, (hg.block _ h2.lt (fun e => by have := (hr _ e.symm).1; omega)).trans h2, ?_⟩, h4.grown hg (Nat.le_trans hs h4.size) (fun r e => by have := (hr r e).1; omega), Nat.le_trans h5 hg.size⟩
  refine Go.Proofs.Ytiimflmbcgnbeaa.Own.kept h3 hg (fun g e e' => ?_)
  subst e
  rcases (hr g e').2 with h | ⟨o, ho, hc⟩
  · obtain ⟨g', h6, h7, _⟩ := h3.plain _ rfl
    cases h6; omega
  · obtain ⟨cs, hk, _⟩ := h3.bk_any
    unfold Bk at hk
    rw [hk] at ho
    cases ho
    simp [Obj.isCells] at hc
theorem list_out (w : World) {a b c d : Value} (z : Int) (hz : z < 1 ∨ 256 < z) : Calls Try.prog 34 #[a, b, c, d, .int .i64 z] w fun e w' => e = .returned (.tuple #[.slice none 0 0, .int .i64 1]) ∧ Below w.heap.size w w' := by
  refine (callsIn_wide (n := 7)).1 (callsIn_of_wp_marks Try.func34 rfl trivial ?_ rfl)
  simp only [Try.ntmps34, List.size_toArray, List.length_cons, List.length_nil, Nat.reduceAdd, Nat.reduceSub, Array.replicate_succ, Array.replicate_zero, List.push_toArray, List.append_toArray, List.nil_append, List.cons_append]
  refine wpIn_wide.2 ?_
  rcases hz with hz | hz
  · go_wp2
    exact ⟨_, results_tmp2 rfl _ _ _, rfl, (Below.refl _ _).alloc (Nat.le_refl _) _⟩
  · have hz2 : ¬ z < 1 := by omega
    go_wp2
    exact ⟨_, results_tmp2 rfl _ _ _, rfl, (Below.refl _ _).alloc (Nat.le_refl _) _⟩
set_option maxRecDepth 100000 in
theorem list_any (w : World) {a b c d n : Nat} (ha : a < 4294967296) (hb : b < 4294967296) (hc : c < 4294967296) (hd : d < 4294967296) (hn1 : 1 ≤ n) (hn2 : n ≤ 256) :
    Calls Try.prog 34 #[.int .u32 (a : Int), .int .u32 (b : Int), .int .u32 (c : Int), .int .u32 (d : Int), .int .i64 (n : Int)] w fun e w' => ∃ A k, e = .returned (.tuple #[.slice A n k, .int .i64 0]) ∧ Rd .u32 w' A n k ((List.range n).map (kchN a b c d)) ∧ (∀ ad, A = some ad → ad.block < w'.heap.size) ∧ Below w.heap.size w w' := by
  have z1 : ¬ (n : Int) < 1 := by omega
  have z2 : ¬ 256 < (n : Int) := by omega
  obtain ⟨i0, hi0, hz0, hz1, hz2⟩ := info_parts info_u32
  refine (callsIn_wide (n := 7)).1 (callsIn_of_wp_marks Try.func34 rfl trivial ?_ rfl)
  simp only [Try.ntmps34, List.size_toArray, List.length_cons, List.length_nil, Nat.reduceAdd, Nat.reduceSub, Array.replicate_succ, Array.replicate_zero, List.push_toArray, List.append_toArray, List.nil_append, List.cons_append]
  refine wpIn_wide.2 ?_
  go_upto_region 4 with (fail)
  obtain ⟨s0, hs0⟩ : ∃ z, w.heap.size = z := ⟨_, rfl⟩
  have hk1 := (Bk.new w 3 #[.int .i64 (n : Int)]).alloc (.cells #[.slice none 0 0] 48)
  have hk2 := Bk.new (w.alloc (.cells #[.int .i64 (n : Int)] 3)) 48 #[.slice none 0 0]
  have hbb := ((Below.refl w.heap.size w).alloc (Nat.le_refl _) (.cells #[.int .i64 (n : Int)] 3)).alloc (by simp) (.cells #[.slice none 0 0] 48)
  have hsz : ((w.alloc (.cells #[.int .i64 (n : Int)] 3)).alloc (.cells #[.slice none 0 0] 48)).heap.size = w.heap.size + 2 := by simp
  rw [World.size_alloc] at hk2
  generalize (w.alloc (.cells #[.int .i64 (n : Int)] 3)).alloc (.cells #[.slice none 0 0] 48) = w2 at hk1 hk2 hbb hsz ⊢
  rw [hs0] at hk1 hk2 hbb hsz ⊢
  have hch := chain_maker w2 a b c d
  have hbx : Boxes ((((w2.alloc (.cells #[.int .u32 (a : Int)] 41)).alloc (.cells #[.int .u32 (b : Int)] 41)).alloc (.cells #[.int .u32 (c : Int)] 41)).alloc (.cells #[.int .u32 (d : Int)] 41)) w2.heap.size a b c d := by
    refine ⟨(((Bk.new _ _ _).alloc _).alloc _).alloc _, ((Bk.at_new _ _ (by simp)).alloc _).alloc _, (Bk.at_new _ _ (by simp)).alloc _, Bk.at_new _ _ (by simp)⟩
  have hbel : Below w2.heap.size w2 ((((w2.alloc (.cells #[.int .u32 (a : Int)] 41)).alloc (.cells #[.int .u32 (b : Int)] 41)).alloc (.cells #[.int .u32 (c : Int)] 41)).alloc (.cells #[.int .u32 (d : Int)] 41)) := ((((Below.refl _ w2).alloc (Nat.le_refl _) _).alloc (by simp <;> omega) _).alloc (by simp <;> omega) _).alloc (by simp <;> omega) _
  have hsz6 : ((((w2.alloc (.cells #[.int .u32 (a : Int)] 41)).alloc (.cells #[.int .u32 (b : Int)] 41)).alloc (.cells #[.int .u32 (c : Int)] 41)).alloc (.cells #[.int .u32 (d : Int)] 41)).heap.size = w2.heap.size + 4 := by simp
  generalize (((w2.alloc (.cells #[.int .u32 (a : Int)] 41)).alloc (.cells #[.int .u32 (b : Int)] 41)).alloc (.cells #[.int .u32 (c : Int)] 41)).alloc (.cells #[.int .u32 (d : Int)] 41) = w6 at hch hbx hbel hsz6
  obtain ⟨s2, hs2⟩ : ∃ z, w2.heap.size = z := ⟨_, rfl⟩
  rw [hs2] at hch hbx hbel hsz6 hsz
  subst hsz
  have O6 : OutI w w6.heap.size s0 n (kchN a b c d) 0 w6 := by
    refine ⟨hk1.below hbel (by omega), ⟨none, 0, hk2.below hbel (by omega), Own.nil _ _ _ _⟩, hbb.trans (hbel.mono (by omega)), Nat.le_refl _⟩
  have HO6 := Lib.hid O6
  clear hk1 hk2 hbb hbel O6
  go_wp2_with (go_at_call 60; refine hch.mono ?_; rintro e w6' ⟨rfl, rfl⟩)
  have HBX := Lib.hid hbx
  have HS0 := Lib.hid hs0
  have hsw : s0 ≤ w.heap.size := by omega
  clear hch hbx hs2 hs0
  refine (wpIn_wide (n := 7)).1 ?_
  apply range_stop (F := Fence.wide) rfl (by omega) (gf := 68) (lb := #[.pointer (some ⟨s0 + 2 + 2, 0, none⟩), .pointer (some ⟨s0 + 2, 0, none⟩), .pointer (some ⟨s0 + 2 + 1, 0, none⟩), .pointer (some ⟨s0 + 2 + 3, 0, none⟩)]) rfl trivial (enters_of Try.func68 (by kernel_rfl) rfl)
    (encs := fun x : Nat => #[.int .u32 (x : Int)]) (Ok := fun pre x => x = kchN a b c d pre.length) (Bn := s0 + 2 + 2) (lo := s0 + 2) (hi := s0 + 2 + 4) (by omega) (by omega)
    (chain_gives 6 (by omega) w6' ha hb hc hd HBX.out) (fun _ => rfl) n
    (fun pre W => pre.length < n ∧ OutI w w6'.heap.size s0 n (kchN a b c d) pre.length W) (fun cc _ W => cc = .exit 0 ∧ OutI w w6'.heap.size s0 n (kchN a b c d) n W)
    (fun s W W' row hs hg hr => ⟨hs.1, hs.2.kept hsw hg (fun r e => ⟨by have := (hr r e).1; omega, .inr (hr r e).2⟩)⟩)
    (fun cc s W W' row hs hg hr => ⟨hs.1, hs.2.kept hsw hg (fun r e => ⟨by have := (hr r e).1; omega, .inr (hr r e).2⟩)⟩)
    (fun s W W' row hs hg hr => ⟨hs.1, hs.2.kept hsw hg (fun r e => by have := hr r e; subst this; exact ⟨by omega, .inl (by omega)⟩)⟩)
    (fun pre W h => h.1) ⟨by show 0 < n; omega, HO6.out⟩
  case hassign =>
    intro l x W K hK
    gi_wp2
    exact hK
  case hbody =>
    rintro l pre x W ⟨hpl, hO⟩ hx
    have hlen : (pre ++ [x]).length = pre.length + 1 := by simp
    obtain ⟨B, hB⟩ : ∃ z, w6'.heap.size = z := ⟨_, rfl⟩
    obtain ⟨K, hK⟩ : ∃ z, pre.length = z := ⟨_, rfl⟩
    rw [hK] at hO hpl hx hlen
    rw [hB] at hO
    obtain ⟨h1, ⟨A, k, h2, h3⟩, h4, h5⟩ := hO
    have c0 : W.cell? ⟨s0, 0, none⟩ = some (.int .i64 (n : Int)) := h1.cell 0
    have c1 : W.cell? ⟨s0 + 1, 0, none⟩ = some (.slice A K k) := h2.cell 0
    have hr := (Own.of_bk (k := .u32) (xs := [x]) (base := 0) (Bk.new W 41 (va .u32 [x])) (Nat.zero_le _) rfl (by simp)).rd
    have hnb := (Below.refl W.heap.size W).alloc (Nat.le_refl _) (.cells (va .u32 [x]) 41)
    have ho := h3.below hnb
    have hsn : B ≤ (W.alloc (.cells (va .u32 [x]) 41)).heap.size := by simp; omega
    have HNB := Lib.hid hnb
    have H1 := Lib.hid h1
    have H2 := Lib.hid h2
    have H4 := Lib.hid h4
    have H5 := Lib.hid h5
    have HX := Lib.hid (show (List.range K).map (kchN a b c d) ++ [x] = (List.range (K + 1)).map (kchN a b c d) by rw [List.range_succ, List.map_append, hx]; rfl)
    have HLEN := Lib.hid hlen
    have hs0B : s0 + 2 + 4 = B := by omega
    have HSB := Lib.hid hs0B
    have HK := Lib.hid hK
    have HBS := Lib.hid hB
    clear h1 h2 h4 h5 hx h3 hlen hnb hs0B hK hB hsz6
    gi_wp2_with (gi_at_builtin; refine wpListIn_append_rd _ rfl (.tmp 26) (.tmp 28) _ rfl .u32 B 41 i0 (.int .u32 0) 4 Try.underlying48 hi0 hz0 hz1 hz2 rfl A K k ((List.range K).map (kchN a b c d)) rfl ho _ _ _ _ rfl hr (by unfold maxLen; omega) (by omega) hsn ?_)
    intro A' k' w3 ho' hb' hz' hkk
    have hW3 : ∀ g, g < B → w3.heap[g]? = W.heap[g]? := fun g hg => by
      have h5 := H5.out
      exact (hb'.block g hg).trans (HNB.out.block g (by omega))
    have k1 : Bk w3 s0 3 #[.int .i64 (n : Int)] := (hW3 s0 (by have := HSB.out; omega)).trans H1.out
    have k2 : Bk w3 (s0 + 1) 48 #[.slice A K k] := (hW3 (s0 + 1) (by have := HSB.out; omega)).trans H2.out
    have e0 : w3.cell? ⟨s0, 0, none⟩ = some (.int .i64 (n : Int)) := k1.cell 0
    have e1 : w3.cell? ⟨s0 + 1, 0, none⟩ = some (.slice A K k) := k2.cell 0
    have f1 := k2.frozen 0
    rw [HX.out] at ho'
    have hkeep : KeepsOthers W (w3.setCell ⟨s0 + 1, 0, none⟩ (.slice A' (K + 1) k')) := ((KeepsOthers.alloc W _).trans (append_keeps ho hb' (by simpa using hz') (fun g hg hA => hkk g (by simpa using hg) hA))).trans (KeepsOthers.setCell _ _ _)
    have hbox : ∀ j, s0 + 2 ≤ j → j < s0 + 2 + 4 → (w3.setCell ⟨s0 + 1, 0, none⟩ (.slice A' (K + 1) k')).heap[j]? = W.heap[j]? := fun j j1 j2 =>
      (Below.heap_setCell w3 ⟨s0 + 1, 0, none⟩ _ j (by show j ≠ s0 + 1; omega)).trans (hW3 j (by have := HSB.out; omega))
    have hout : OutI w B s0 n (kchN a b c d) (K + 1) (w3.setCell ⟨s0 + 1, 0, none⟩ (.slice A' (K + 1) k')) := by
      have hsb := HSB.out
      have h5 := H5.out
      refine ⟨k1.far (by show s0 ≠ s0 + 1; omega) _, ⟨A', k', k2.set 0 _, ?_⟩, ?_, by show B ≤ (w3.setCell _ _).heap.size; simp; omega⟩
      · refine Go.Proofs.Ytiimflmbcgnbeaa.Own.kept ho' (grown_set (grown_refl w3 (some (s0 + 1))) 0 _) (fun g e e' => ?_)
        obtain ⟨g', h, h6, _⟩ := ho'.plain _ e
        cases h
        have := Option.some.inj e'
        omega
      · exact ((H4.out.trans (HNB.out.mono (by omega))).trans (hb'.mono (by omega))).setCell (p := ⟨s0 + 1, 0, none⟩) (by show s0 ≤ s0 + 1; omega) _
    have HKEEP := Lib.hid hkeep
    have HBOX := Lib.hid hbox
    have HOUT := Lib.hid hout
    clear hkeep hbox hout hW3 k1 k2 ho' hb' hz' hkk ho hr
    by_cases hKn : K + 1 = n
    · have t1 : (K : Int) + 1 = (n : Int) := by omega
      have HKN := Lib.hid hKn
      clear hKn
      gi_wp2
      refine ⟨HKEEP.out, rfl, ?_⟩
      rw [HBS.out]
      have hany : ∀ N, K + 1 = N → OutI w B s0 n (kchN a b c d) N (w3.setCell ⟨s0 + 1, 0, none⟩ (.slice A' (K + 1) k')) := fun N e => by subst e; exact HOUT.out
      exact hany n HKN.out
    · have t1 : ¬ (K : Int) + 1 = (n : Int) := by omega
      have t2 := decide_eq_false t1
      gi_wp2
      refine ⟨HKEEP.out, HBOX.out, ?_, ?_⟩
      · rw [HLEN.out]; omega
      · rw [HLEN.out, HBS.out]; exact HOUT.out
  case hstop =>
    rintro D cc xs W hD ⟨rfl, hO⟩ hdef
    obtain ⟨h1, ⟨A, k, h2, h3⟩, h4, h5⟩ := hO
    have c1 : W.cell? ⟨s0 + 1, 0, none⟩ = some (.slice A n k) := h2.cell 0
    have hO2 := OutI.kept (w := w) ⟨h1, ⟨A, k, h2, h3⟩, h4, h5⟩ hsw (grownBy_putObj' W D (.deferred none)) (fun r e => by
      have := Option.some.inj e
      subst this
      exact ⟨by omega, .inr ⟨_, hdef, rfl⟩⟩)
    obtain ⟨_, ⟨A2, k2, g2, g3⟩, g4, _⟩ := hO2
    have e2 := g2.cell 0
    have hD2 : (s0 + 1) ≠ D := by omega
    rw [show (W.putObj D (.deferred none)).cell? ⟨s0 + 1, 0, none⟩ = some (.slice A n k) from (World.cell?_of_block (a := ⟨s0 + 1, 0, none⟩) (World.putObj_heap_other hD2)).trans c1] at e2
    simp only [List.getElem?_toArray, List.getElem?_cons_zero, Option.some.injEq, Value.slice.injEq, true_and] at e2
    obtain ⟨rfl, rfl⟩ := e2
    have HG3 := Lib.hid g3
    have HG4 := Lib.hid g4
    clear h1 h2 h3 h4 h5 g2 g3 g4
    gi_wp2
    go_wp2
    refine ⟨by simp, .inl ⟨_, _, rfl, run_takeDeferred hdef, ?_⟩⟩
    refine ⟨_, results_tmp2 rfl _ _ _, A, k, rfl, HG3.out.rd, fun ad e => ?_, by rw [HS0.out]; exact HG4.out⟩
    obtain ⟨g, rfl, _, h⟩ := HG3.out.plain ad e
    exact h
end Go.Proofs.Ytiimflmbcgnbeaa

/- How many hops lead from one key number to another one: the walk. -/
namespace Go.Proofs.Ytiimflmbcgnbeaa
set_option linter.unusedSimpArgs false
set_option linter.unusedVariables false
open Go.RowKit
attribute [local go_sem] Oper.semAt_some

/-- what Hops tells -/
def HopsN (a b c d last most k err : Nat) : Prop :=
  (err = 0 ∧ k ≤ most ∧ kchN a b c d k = last ∧ ∀ i, i < k → kchN a b c d i ≠ last) ∨ (err = 110 ∧ k = 0 ∧ ∀ i, i ≤ most → kchN a b c d i ≠ last)
theorem HopsN.same {a b c d last most k k' err err' : Nat} (h : HopsN a b c d last most k err) (h' : HopsN a b c d last most k' err') : k = k' ∧ err = err' := by
  rcases h with ⟨h1, h2, h3, h4⟩ | ⟨h1, h2, h3⟩ <;> rcases h' with ⟨g1, g2, g3, g4⟩ | ⟨g1, g2, g3⟩
  · refine ⟨?_, by omega⟩
    rcases Nat.lt_trichotomy k k' with hlt | rfl | hlt
    · exact absurd h3 (g4 k hlt)
    · rfl
    · exact absurd g3 (h4 k' hlt)
  · exact absurd h3 (g3 k h2)
  · exact absurd g3 (h3 k' g2)
  · exact ⟨by omega, by omega⟩
/-- the cells of Hops -/
def HopI (w : World) (B s0 last most r e k : Nat) (W : World) : Prop :=
  Bk W s0 41 #[.int .u32 (last : Int)] ∧ Bk W (s0 + 1) 3 #[.int .i64 (most : Int)] ∧ Bk W (s0 + 2) 3 #[.int .i64 (r : Int)] ∧ Bk W (s0 + 3) 30 #[.int .i64 (e : Int)] ∧ Bk W (s0 + 4) 3 #[.int .i64 (k : Int)] ∧ Below s0 w W ∧ B ≤ W.heap.size
theorem HopI.kept {w W W' : World} {B s0 last most r e k : Nat} {row : Option Nat} (h : HopI w B s0 last most r e k W) (hs : s0 ≤ w.heap.size) (hg : W.grownBy W' row) (hr : ∀ q, row = some q → s0 + 4 < q) : HopI w B s0 last most r e k W' := by
  obtain ⟨h0, h1, h2, h3, h4, h5, h6⟩ := h
  exact ⟨(hg.block _ h0.lt (fun e => by have := hr _ e.symm; omega)).trans h0, (hg.block _ h1.lt (fun e => by have := hr _ e.symm; omega)).trans h1, (hg.block _ h2.lt (fun e => by have := hr _ e.symm; omega)).trans h2, (hg.block _ h3.lt (fun e => by have := hr _ e.symm; omega)).trans h3,
    (hg.block _ h4.lt (fun e => by have := hr _ e.symm; omega)).trans h4, h5.grown hg (Nat.le_trans hs h5.size) (fun q e => by have := hr q e; omega), Nat.le_trans h6 hg.size⟩
theorem hops_out (w : World) {a b c d : Value} {l : Nat} (z : Int) (hz : z < 0 ∨ 256 < z) : Calls Try.prog 36 #[a, b, c, d, .int .u32 (l : Int), .int .i64 z] w fun e w' => e = .returned (.tuple #[.int .i64 0, .int .i64 1]) ∧ Below w.heap.size w w' := by
  refine (callsIn_wide (n := 7)).1 (callsIn_of_wp_marks Try.func36 rfl trivial ?_ rfl)
  simp only [Try.ntmps36, List.size_toArray, List.length_cons, List.length_nil, Nat.reduceAdd, Nat.reduceSub, Array.replicate_succ, Array.replicate_zero, List.push_toArray, List.append_toArray, List.nil_append, List.cons_append]
  refine wpIn_wide.2 ?_
  rcases hz with hz | hz
  · go_wp2
    refine ⟨.tuple #[.int .i64 0, .int .i64 1], ?_, rfl, ?_⟩
    · simp [results, Try.results36, go_sem, Result.andThen]
    · (repeat (first | (with_reducible exact Below.refl _ _) | (with_reducible assumption) | (with_reducible refine Below.drew ?_) | (with_reducible refine below_drewN ?_ _) | ((with_reducible refine Below.setCell ?_ (p := ⟨_, _, _⟩) ?_ _); rotate_left; (simp <;> omega)) | ((with_reducible refine Below.alloc ?_ ?_ _); rotate_left; (simp <;> omega)) | ((with_reducible refine Below.trans ?_ (Below.mono (by with_reducible assumption) ?_)); rotate_left; (simp <;> omega))))
  · have hz2 : ¬ z < 0 := by omega
    go_wp2
    refine ⟨.tuple #[.int .i64 0, .int .i64 1], ?_, rfl, ?_⟩
    · simp [results, Try.results36, go_sem, Result.andThen]
    · (repeat (first | (with_reducible exact Below.refl _ _) | (with_reducible assumption) | (with_reducible refine Below.drew ?_) | (with_reducible refine below_drewN ?_ _) | ((with_reducible refine Below.setCell ?_ (p := ⟨_, _, _⟩) ?_ _); rotate_left; (simp <;> omega)) | ((with_reducible refine Below.alloc ?_ ?_ _); rotate_left; (simp <;> omega)) | ((with_reducible refine Below.trans ?_ (Below.mono (by with_reducible assumption) ?_)); rotate_left; (simp <;> omega))))
set_option maxRecDepth 100000 in
set_option maxHeartbeats 1000000 in
theorem hops_any (w : World) {a b c d last most : Nat} (ha : a < 4294967296) (hb : b < 4294967296) (hc : c < 4294967296) (hd : d < 4294967296) (hl : last < 4294967296) (hm : most ≤ 256) :
    Calls Try.prog 36 #[.int .u32 (a : Int), .int .u32 (b : Int), .int .u32 (c : Int), .int .u32 (d : Int), .int .u32 (last : Int), .int .i64 (most : Int)] w fun e w' => ∃ k err, e = .returned (.tuple #[.int .i64 ((k : Nat) : Int), .int .i64 ((err : Nat) : Int)]) ∧ HopsN a b c d last most k err ∧ Below w.heap.size w w' := by
  have z1 : ¬ (most : Int) < 0 := by omega
  have z2 : ¬ 256 < (most : Int) := by omega
  refine (callsIn_wide (n := 7)).1 (callsIn_of_wp_marks Try.func36 rfl trivial ?_ rfl)
  simp only [Try.ntmps36, List.size_toArray, List.length_cons, List.length_nil, Nat.reduceAdd, Nat.reduceSub, Array.replicate_succ, Array.replicate_zero, List.push_toArray, List.append_toArray, List.nil_append, List.cons_append]
  refine wpIn_wide.2 ?_
  go_upto_region 4 with (fail)
  obtain ⟨s0, hs0⟩ : ∃ z, w.heap.size = z := ⟨_, rfl⟩
  have h5 : HopI w (s0 + 5) s0 last most 0 0 0 (((((w.alloc (.cells #[.int .u32 (last : Int)] 41)).alloc (.cells #[.int .i64 (most : Int)] 3)).alloc (.cells #[.int .i64 0] 3)).alloc (.cells #[.int .i64 0] 30)).alloc (.cells #[.int .i64 0] 3)) := by
    refine ⟨?_, ?_, ?_, ?_, ?_, ?_, ?_⟩
    · rw [← hs0]; exact ((((Bk.new _ _ _).alloc _).alloc _).alloc _).alloc _
    · exact (((Bk.at_new _ _ (by simp; omega)).alloc _).alloc _).alloc _
    · exact ((Bk.at_new _ _ (by simp; omega)).alloc _).alloc _
    · exact (Bk.at_new _ _ (by simp; omega)).alloc _
    · exact Bk.at_new _ _ (by simp; omega)
    · exact (((((Below.refl s0 w).alloc (by omega) _).alloc (by simp <;> omega) _).alloc (by simp <;> omega) _).alloc (by simp <;> omega) _).alloc (by simp <;> omega) _
    · simp; omega
  have hsz5 : (((((w.alloc (.cells #[.int .u32 (last : Int)] 41)).alloc (.cells #[.int .i64 (most : Int)] 3)).alloc (.cells #[.int .i64 0] 3)).alloc (.cells #[.int .i64 0] 30)).alloc (.cells #[.int .i64 0] 3)).heap.size = s0 + 5 := by simp; omega
  generalize ((((w.alloc (.cells #[.int .u32 (last : Int)] 41)).alloc (.cells #[.int .i64 (most : Int)] 3)).alloc (.cells #[.int .i64 0] 3)).alloc (.cells #[.int .i64 0] 30)).alloc (.cells #[.int .i64 0] 3) = w2 at h5 hsz5 ⊢
  rw [hs0]
  simp only [Nat.add_assoc, Nat.reduceAdd]
  have hch := chain_maker w2 a b c d
  have hbx : Boxes ((((w2.alloc (.cells #[.int .u32 (a : Int)] 41)).alloc (.cells #[.int .u32 (b : Int)] 41)).alloc (.cells #[.int .u32 (c : Int)] 41)).alloc (.cells #[.int .u32 (d : Int)] 41)) w2.heap.size a b c d := by
    refine ⟨(((Bk.new _ _ _).alloc _).alloc _).alloc _, ((Bk.at_new _ _ (by simp)).alloc _).alloc _, (Bk.at_new _ _ (by simp)).alloc _, Bk.at_new _ _ (by simp)⟩
  have hbel : Below w2.heap.size w2 ((((w2.alloc (.cells #[.int .u32 (a : Int)] 41)).alloc (.cells #[.int .u32 (b : Int)] 41)).alloc (.cells #[.int .u32 (c : Int)] 41)).alloc (.cells #[.int .u32 (d : Int)] 41)) := ((((Below.refl _ w2).alloc (Nat.le_refl _) _).alloc (by simp <;> omega) _).alloc (by simp <;> omega) _).alloc (by simp <;> omega) _
  have hsz6 : ((((w2.alloc (.cells #[.int .u32 (a : Int)] 41)).alloc (.cells #[.int .u32 (b : Int)] 41)).alloc (.cells #[.int .u32 (c : Int)] 41)).alloc (.cells #[.int .u32 (d : Int)] 41)).heap.size = w2.heap.size + 4 := by simp
  generalize (((w2.alloc (.cells #[.int .u32 (a : Int)] 41)).alloc (.cells #[.int .u32 (b : Int)] 41)).alloc (.cells #[.int .u32 (c : Int)] 41)).alloc (.cells #[.int .u32 (d : Int)] 41) = w6 at hch hbx hbel hsz6
  have h6 := h5.kept (by omega) (grown_of_below hbel none) (fun q e => by cases e)
  rw [hsz5] at hch hbx hbel hsz6
  simp only [Nat.add_assoc, Nat.reduceAdd] at hch hsz6
  have HO6 := Lib.hid h6
  have HBX := Lib.hid hbx
  have HS0 := Lib.hid hs0
  have hsw : s0 ≤ w.heap.size := by omega
  clear h5 h6 hbx hbel hs0 hsz5
  go_wp2_with (go_at_call 60; refine hch.mono ?_; rintro e w6' ⟨rfl, rfl⟩)
  clear hch
  refine (wpIn_wide (n := 7)).1 ?_
  apply range_stop (F := Fence.wide) rfl (by omega) (gf := 68) (lb := #[.pointer (some ⟨s0 + 7, 0, none⟩), .pointer (some ⟨s0 + 5, 0, none⟩), .pointer (some ⟨s0 + 6, 0, none⟩), .pointer (some ⟨s0 + 8, 0, none⟩)]) rfl trivial (enters_of Try.func68 (by kernel_rfl) rfl)
    (encs := fun x : Nat => #[.int .u32 (x : Int)]) (Ok := fun pre x => x = kchN a b c d pre.length) (Bn := s0 + 7) (lo := s0 + 5) (hi := s0 + 9) (by omega) (by omega)
    (chain_gives 6 (by omega) w6' ha hb hc hd HBX.out) (fun _ => rfl) (most + 1)
    (fun pre W => (pre.length < most + 1 ∧ ∀ i, i < pre.length → kchN a b c d i ≠ last) ∧ HopI w (s0 + 5) s0 last most 0 0 pre.length W)
    (fun cc _ W => (cc = .ret ∧ ∃ k q, HopsN a b c d last most k 0 ∧ HopI w (s0 + 5) s0 last most k 0 q W) ∨ (cc = .exit 0 ∧ HopsN a b c d last most 0 110 ∧ HopI w (s0 + 5) s0 last most 0 0 most W))
    (fun s W W' row hs hg hr => ⟨hs.1, hs.2.kept hsw hg (fun r e => by have := (hr r e).1; omega)⟩)
    (fun cc s W W' row hs hg hr => by
      rcases hs with ⟨h1, k, q, h2, h3⟩ | ⟨h1, h2, h3⟩
      · exact .inl ⟨h1, k, q, h2, h3.kept hsw hg (fun r e => by have := (hr r e).1; omega)⟩
      · exact .inr ⟨h1, h2, h3.kept hsw hg (fun r e => by have := (hr r e).1; omega)⟩)
    (fun s W W' row hs hg hr => ⟨hs.1, hs.2.kept hsw hg (fun r e => by have := hr r e; omega)⟩)
    (fun pre W h => h.1.1) ⟨⟨by show 0 < most + 1; omega, fun i h => absurd h (by simp)⟩, HO6.out⟩
  case hassign =>
    intro l x W K hK
    gi_wp2
    exact hK
  case hbody =>
    rintro l pre x W ⟨⟨hpl, hno⟩, hO⟩ hx
    have hlen : (pre ++ [x]).length = pre.length + 1 := by simp
    obtain ⟨K, hK⟩ : ∃ z, pre.length = z := ⟨_, rfl⟩
    rw [hK] at hO hpl hx hlen hno
    have HLEN := Lib.hid hlen
    obtain ⟨h0, h1, h2, h3, h4, h5, h6⟩ := hO
    have c0 : W.cell? ⟨s0, 0, none⟩ = some (.int .u32 (last : Int)) := h0.cell 0
    have c1 : W.cell? ⟨s0 + 1, 0, none⟩ = some (.int .i64 (most : Int)) := h1.cell 0
    have c2 : W.cell? ⟨s0 + 2, 0, none⟩ = some (.int .i64 0) := h2.cell 0
    have c3 : W.cell? ⟨s0 + 3, 0, none⟩ = some (.int .i64 0) := h3.cell 0
    have c4 : W.cell? ⟨s0 + 4, 0, none⟩ = some (.int .i64 (K : Int)) := h4.cell 0
    have f2 := h2.frozen 0
    have f3 := h3.frozen 0
    have f4 := h4.frozen 0
    have H0 := Lib.hid h0
    have H1 := Lib.hid h1
    have H2 := Lib.hid h2
    have H3 := Lib.hid h3
    have H4 := Lib.hid h4
    have H5 := Lib.hid h5
    have H6 := Lib.hid h6
    have HX := Lib.hid hx
    have HNO := Lib.hid hno
    clear h0 h1 h2 h3 h4 h5 h6 hx hno hlen hK
    by_cases hxl : x = last
    · have hf : HopsN a b c d last most K 0 := .inl ⟨rfl, by omega, by rw [← HX.out]; exact hxl, HNO.out⟩
      have t1 : (x : Int) = (last : Int) := by omega
      have HF := Lib.hid hf
      have t2 := decide_eq_true t1
      clear hf hxl
      gi_wp2
      refine ⟨(KeepsOthers.setCell _ _ _).trans (KeepsOthers.setCell _ _ _), .inl ⟨rfl, K, K, HF.out, ?_⟩⟩
      exact ⟨(H0.out.far (by show s0 ≠ s0 + 2; omega) _).far (by show s0 ≠ s0 + 3; omega) _, (H1.out.far (by show s0 + 1 ≠ s0 + 2; omega) _).far (by show s0 + 1 ≠ s0 + 3; omega) _, (H2.out.set 0 _).far (by show s0 + 2 ≠ s0 + 3; omega) _, (H3.out.far (by show s0 + 3 ≠ s0 + 2; omega) _).set 0 _, (H4.out.far (by show s0 + 4 ≠ s0 + 2; omega) _).far (by show s0 + 4 ≠ s0 + 3; omega) _,
        (H5.out.setCell (p := ⟨s0 + 2, 0, none⟩) (by show s0 ≤ s0 + 2; omega) _).setCell (p := ⟨s0 + 3, 0, none⟩) (by show s0 ≤ s0 + 3; omega) _, by have := H6.out; simp; omega⟩
    · have t1 : ¬ (x : Int) = (last : Int) := by omega
      have t2 := decide_eq_false t1
      have hno2 : ∀ i, i < K + 1 → kchN a b c d i ≠ last := fun i hi => by
        rcases Nat.lt_or_ge i K with h | h
        · exact HNO.out i h
        · obtain rfl : i = K := by omega
          rw [← HX.out]; exact hxl
      have HNO2 := Lib.hid hno2
      clear hno2 hxl
      by_cases hKm : K = most
      · have t3 : (K : Int) = (most : Int) := by omega
        have t4 := decide_eq_true t3
        have hf : HopsN a b c d last most 0 110 := .inr ⟨rfl, rfl, fun i hi => HNO2.out i (by omega)⟩
        have HF := Lib.hid hf
        subst hKm
        clear hf t3
        gi_wp2
        exact ⟨KeepsOthers.refl _, .inr ⟨rfl, HF.out, H0.out, H1.out, H2.out, H3.out, H4.out, H5.out, H6.out⟩⟩
      · have t3 : ¬ (K : Int) = (most : Int) := by omega
        have t4 := decide_eq_false t3
        have i1 : IntKind.i64.wrap ((K : Int) + 1) = (K : Int) + 1 := IntWalk.i64_in _ (by omega)
        have hKm2 : K + 1 < most + 1 := by omega
        clear hKm
        gi_wp2
        refine ⟨KeepsOthers.setCell _ _ _, fun j j1 j2 => Below.heap_setCell W ⟨s0 + 4, 0, none⟩ _ j (by show j ≠ s0 + 4; omega), ⟨by rw [HLEN.out]; exact hKm2, by rw [HLEN.out]; exact HNO2.out⟩, ?_⟩
        rw [HLEN.out]
        exact ⟨H0.out.far (by show s0 ≠ s0 + 4; omega) _, H1.out.far (by show s0 + 1 ≠ s0 + 4; omega) _, H2.out.far (by show s0 + 2 ≠ s0 + 4; omega) _, H3.out.far (by show s0 + 3 ≠ s0 + 4; omega) _, H4.out.set 0 _,
          H5.out.setCell (p := ⟨s0 + 4, 0, none⟩) (by show s0 ≤ s0 + 4; omega) _, by have := H6.out; simp; omega⟩
  case hstop =>
    rintro D cc xs W hD (⟨rfl, k, q, hF, hO⟩ | ⟨rfl, hF, hO⟩) hdef
    · have hO2 := hO.kept hsw (grownBy_putObj' W D (.deferred none)) (fun r e => by have := Option.some.inj e; omega)
      obtain ⟨_, _, g2, g3, _, g5, _⟩ := hO2
      have e2 : (W.putObj D (.deferred none)).cell? ⟨s0 + 2, 0, none⟩ = some (.int .i64 (k : Int)) := g2.cell 0
      have e3 : (W.putObj D (.deferred none)).cell? ⟨s0 + 3, 0, none⟩ = some (.int .i64 0) := g3.cell 0
      gi_wp2
      refine ⟨by simp, .inl ⟨_, _, rfl, run_takeDeferred hdef, ?_⟩⟩
      refine ⟨.tuple #[.int .i64 (k : Int), .int .i64 ((0 : Nat) : Int)], ?_, k, 0, rfl, hF, by rw [HS0.out]; exact g5⟩
      simp [results, Try.results36, go_sem, Result.andThen, e2, e3]
    · have h2 := hO.2.2.1
      have h3 := hO.2.2.2.1
      have f2 := h2.frozen 0
      have f3 := h3.frozen 0
      have c2 : W.cell? ⟨s0 + 2, 0, none⟩ = some (.int .i64 0) := h2.cell 0
      have c3 : W.cell? ⟨s0 + 3, 0, none⟩ = some (.int .i64 0) := h3.cell 0
      have h5 := hO.2.2.2.2.2.1
      have H2 := Lib.hid h2
      have H3 := Lib.hid h3
      have H5 := Lib.hid h5
      clear hO h2 h3 h5
      gi_wp2
      go_wp2
      have b2 : Bk ((W.setCell ⟨s0 + 2, 0, none⟩ (.int .i64 0)).setCell ⟨s0 + 3, 0, none⟩ (.int .i64 110)) (s0 + 2) 3 #[.int .i64 0] := (H2.out.set 0 (.int .i64 0)).far (by show s0 + 2 ≠ s0 + 3; omega) _
      have b3 : Bk ((W.setCell ⟨s0 + 2, 0, none⟩ (.int .i64 0)).setCell ⟨s0 + 3, 0, none⟩ (.int .i64 110)) (s0 + 3) 30 #[.int .i64 110] := (H3.out.far (by show s0 + 3 ≠ s0 + 2; omega) _).set 0 (.int .i64 110)
      have b5 : Below s0 w ((W.setCell ⟨s0 + 2, 0, none⟩ (.int .i64 0)).setCell ⟨s0 + 3, 0, none⟩ (.int .i64 110)) := (H5.out.setCell (p := ⟨s0 + 2, 0, none⟩) (by show s0 ≤ s0 + 2; omega) _).setCell (p := ⟨s0 + 3, 0, none⟩) (by show s0 ≤ s0 + 3; omega) _
      have bd : ((W.setCell ⟨s0 + 2, 0, none⟩ (.int .i64 0)).setCell ⟨s0 + 3, 0, none⟩ (.int .i64 110)).heap[D]? = some (.deferred (some [])) := (Below.heap_setCell _ ⟨s0 + 3, 0, none⟩ _ D (by show D ≠ s0 + 3; omega)).trans ((Below.heap_setCell _ ⟨s0 + 2, 0, none⟩ _ D (by show D ≠ s0 + 2; omega)).trans hdef)
      generalize (W.setCell ⟨s0 + 2, 0, none⟩ (.int .i64 0)).setCell ⟨s0 + 3, 0, none⟩ (.int .i64 110) = W4 at b2 b3 b5 bd ⊢
      have hb2 : Bk (W4.putObj D (.deferred none)) (s0 + 2) 3 #[.int .i64 0] := (World.putObj_heap_other (by omega)).trans b2
      have hb3 : Bk (W4.putObj D (.deferred none)) (s0 + 3) 30 #[.int .i64 110] := (World.putObj_heap_other (by omega)).trans b3
      have hb5 : Below s0 w (W4.putObj D (.deferred none)) := b5.grown (grownBy_putObj' W4 D _) (Nat.le_trans hsw b5.size) (fun q e => by have := Option.some.inj e; omega)
      have e2 : (W4.putObj D (.deferred none)).cell? ⟨s0 + 2, 0, none⟩ = some (.int .i64 0) := hb2.cell 0
      have e3 : (W4.putObj D (.deferred none)).cell? ⟨s0 + 3, 0, none⟩ = some (.int .i64 110) := hb3.cell 0
      refine ⟨by simp, .inl ⟨_, _, rfl, run_takeDeferred bd, ?_⟩⟩
      refine ⟨.tuple #[.int .i64 ((0 : Nat) : Int), .int .i64 ((110 : Nat) : Int)], ?_, 0, 110, rfl, hF, by rw [HS0.out]; exact hb5⟩
      simp [results, Try.results36, go_sem, Result.andThen, e2, e3]
end Go.Proofs.Ytiimflmbcgnbeaa

/- Layer 11: what must come of fixed calls; the document's lists. -/
namespace Go.Proofs.Ytiimflmbcgnbeaa
set_option linter.unusedSimpArgs false
set_option linter.unusedVariables false
open Go.RowKit Go.Proofs.YtiimflmbcgnbeaaW.PrintWords

theorem list2 (a b c d : Nat) : (List.range 2).map (kchN a b c d) = [c, nextN a b c d] := rfl
theorem hop0 (a b c d most : Nat) : HopsN a b c d c most 0 0 := .inl ⟨rfl, Nat.zero_le _, rfl, fun i hi => absurd hi (by omega)⟩
theorem kalive_any (w : World) : Calls Try.prog 33 #[] w fun e w' => e = .returned (.bool true) ∧ Below w.heap.size w w' := by
  obtain ⟨X, hX⟩ : ∃ z, nextN 1 2 3 4 = z := ⟨_, rfl⟩
  have hL : Calls Try.prog 34 #[.int .u32 1, .int .u32 2, .int .u32 3, .int .u32 4, .int .i64 2] w fun e w' => ∃ A k, e = .returned (.tuple #[.slice A 2 k, .int .i64 0]) ∧ Rd .u32 w' A 2 k [3, X] ∧ Below w.heap.size w w' :=
    (list_any w (a := 1) (b := 2) (c := 3) (d := 4) (n := 2) (by omega) (by omega) (by omega) (by omega) (by omega) (by omega)).mono fun e w' ⟨A, k, he, hr, _, hb⟩ => ⟨A, k, he, by
      rw [list2 1 2 3 4, hX] at hr; exact hr, hb⟩
  have hL0 := fun w' : World => list_out w' (a := .int .u32 1) (b := .int .u32 2) (c := .int .u32 3) (d := .int .u32 4) 0 (.inl (by omega))
  have hH : ∀ w' : World, Calls Try.prog 36 #[.int .u32 1, .int .u32 2, .int .u32 3, .int .u32 4, .int .u32 3, .int .i64 0] w' fun e w'' => e = .returned (.tuple #[.int .i64 0, .int .i64 0]) ∧ Below w'.heap.size w' w'' := fun w' =>
    (hops_any w' (a := 1) (b := 2) (c := 3) (d := 4) (last := 3) (most := 0) (by omega) (by omega) (by omega) (by omega) (by omega) (by omega)).mono fun e w'' ⟨k, err, he, hh, hb⟩ => by
      obtain ⟨rfl, rfl⟩ := hh.same (hop0 1 2 3 4 0)
      exact ⟨he, hb⟩
  have hN : ∀ w' : World, Calls Try.prog 44 #[.int .u32 1, .int .u32 2, .int .u32 3, .int .u32 4] w' fun e w'' => e = .returned (.int .u32 (X : Int)) ∧ Below w'.heap.size w' w'' := fun w' => by
    have h := next_any w' (a := 1) (b := 2) (c := 3) (d := 4) (by omega) (by omega) (by omega) (by omega)
    rw [hX] at h
    exact h
  have hS : ∀ w' : World, Calls Try.prog 43 #[.int .u32 1, .int .u32 2, .int .u32 3, .int .u32 4] w' fun e w'' => ∃ A' c', e = .returned (.slice A' 16 c') ∧ Below w'.heap.size w' w'' := fun w' =>
    (session_any w' (a := 1) (b := 2) (c := 3) (d := 4) (by omega) (by omega) (by omega) (by omega)).mono fun e w'' ⟨A', c', he, _, hb⟩ => ⟨A', c', he, hb⟩
  clear hX
  go_enter Try.func33, Try.ntmps33
  go_upto_region 4 with (first
    | (go_at_call 36; refine (hH _).mono ?_; rintro e w3 ⟨rfl, b3⟩)
    | (go_at_call 34; have b1' := b1; refine (hL0 _).mono ?_; rintro e w2 ⟨rfl, b2⟩)
    | (go_at_call 34; refine hL.mono ?_; rintro e w1 ⟨A, k, rfl, r1, b1⟩))
  have b23 := b2.trans (b3.mono b2.size)
  have hb3 := b1.trans (b23.mono b1.size)
  obtain ⟨ad, rfl, hab, hac⟩ := (r1.below b23).form (by omega)
  have c0 : w3.cell? ad = some (.int .u32 3) := by
    have h := hac 0 (by omega)
    rwa [show ad.add 0 = ad by simp [Addr.add]] at h
  have c1 : w3.cell? ⟨ad.block, ad.off + 1, none⟩ = some (.int .u32 (X : Int)) := by
    have h := hac 1 (by omega)
    rwa [show ad.add 1 = ⟨ad.block, ad.off + 1, none⟩ by simp [Addr.add]] at h
  have S0 : w3.drew.cell? ad = some (.int .u32 3) ∧ w3.drew.cell? ⟨ad.block, ad.off + 1, none⟩ = some (.int .u32 (X : Int)) := ⟨c0, c1⟩
  have HB3 := Lib.hid hb3
  clear hL hL0 hH hac r1 b1 b2 b3 b23 hb3
  go_region_held3 (fun w' => w'.cell? ad = some (.int .u32 3) ∧ w'.cell? ⟨ad.block, ad.off + 1, none⟩ = some (.int .u32 (X : Int)))
    (with_reducible assumption)
    ((first | (go_at_call 44; refine (hN _).mono ?_; rintro e w4 ⟨rfl, b4⟩; have S4 : w4.cell? ad = some (.int .u32 3) ∧ w4.cell? ⟨ad.block, ad.off + 1, none⟩ = some (.int .u32 (X : Int)) := ⟨(b4.cell (p := ad) (by exact hab)).trans c0, (b4.cell (p := ⟨ad.block, ad.off + 1, none⟩) (by exact hab)).trans c1⟩) | (go_at_call 43; refine (hS _).mono ?_; rintro e w5 ⟨A5, c5, rfl, b5⟩; have S5 : w5.cell? ad = some (.int .u32 3) ∧ w5.cell? ⟨ad.block, ad.off + 1, none⟩ = some (.int .u32 (X : Int)) := ⟨(b5.cell (p := ad) (Nat.lt_of_lt_of_le hab b4.size)).trans S4.1, (b5.cell (p := ⟨ad.block, ad.off + 1, none⟩) (Nat.lt_of_lt_of_le hab b4.size)).trans S4.2⟩)))
  have hz : w.heap.size ≤ w3.drew.heap.size := HB3.out.size
  have hb := HB3.out.drew.trans ((b4.trans (b5.mono b4.size)).mono hz)
  go_wp2_with fail
  go_ret
  exact ⟨rfl, hb⟩
theorem rlist_out (w : World) {a b c d : Value} (z : Int) (hz : z < 1 ∨ 256 < z) : Calls Try.prog 35 #[a, b, c, d, .int .i64 z] w fun e w' => e = .returned (.tuple #[.slice none 0 0, .int .i64 1]) ∧ Below w.heap.size w w' := by
  go_enter Try.func35, Try.ntmps35
  rcases hz with hz | hz
  · go_wp2
    go_ret2
    exact ⟨rfl, Below.refl _ _⟩
  · have hz2 : ¬ z < 1 := by omega
    go_wp2
    go_ret2
    exact ⟨rfl, Below.refl _ _⟩
theorem rlist_any (w : World) {a b c d n : Nat} (ha : a < 4294967296) (hb : b < 4294967296) (hc : c < 4294967296) (hd : d < 4294967296) (hn1 : 1 ≤ n) (hn2 : n ≤ 256) :
    Calls Try.prog 35 #[.int .u32 (a : Int), .int .u32 (b : Int), .int .u32 (c : Int), .int .u32 (d : Int), .int .i64 (n : Int)] w fun e w' => ∃ A k, e = .returned (.tuple #[.slice A n k, .int .i64 0]) ∧ Rd .u32 w' A n k ((List.range n).map (kchN a b c d)) ∧ Below w.heap.size w w' := by
  have z1 : ¬ (n : Int) < 1 := by omega
  have z2 : ¬ 256 < (n : Int) := by omega
  obtain ⟨i0, hi0, hz0, hz1, hz2⟩ := info_parts info_u32
  go_enter Try.func35, Try.ntmps35
  go_wp2_with fail
  go_loopw [2, 12, 13] (fun f o i wr => ∃ (t : Nat) (A : Option Addr) (k : Nat), t ≤ n ∧ f = .int .u32 ((kchN a b c d t : Nat) : Int) ∧ i = .int .i64 (t : Int) ∧ o = .slice A t k ∧ Own .u32 41 wr w.heap.size A t k ((List.range t).map (kchN a b c d)) ∧ Below w.heap.size w wr) (fun _ _ i _ => n - (intOf i).toNat)
  case atStart => exact ⟨0, none, 0, by omega, rfl, rfl, rfl, Own.nil _ _ _ _, Below.refl _ _⟩
  case round =>
    obtain ⟨t, A, k, ht, rfl, rfl, rfl, hown, hbel⟩ := hrel
    have hsr := hbel.size
    by_cases hlt : t < n
    · obtain ⟨x, hx⟩ : ∃ z, kchN a b c d t = z := ⟨_, rfl⟩
      have lx : x < 4294967296 := by rw [← hx]; exact kchN_lt hc t
      have HNX := Lib.hid (show kchN a b c d (t + 1) = nextN a b x d by rw [← hx]; rfl)
      have HAP := Lib.hid (show (List.range t).map (kchN a b c d) ++ [x] = (List.range (t + 1)).map (kchN a b c d) by rw [List.range_succ, List.map_append, ← hx]; rfl)
      have HOWN := Lib.hid hown
      have HBEL := Lib.hid hbel
      have i1 : IntKind.i64.wrap ((t : Int) + 1) = (t : Int) + 1 := IntWalk.i64_in _ (by omega)
      rw [hx]
      clear hx hown hbel
      go_upto_region 7 with (fail)
      refine wp_region_lit ?_
      (refine wpList_plain rfl (fun K hK => ?_); go_simp; refine hK _ _ ?_; clear hK K)
      (refine wpList_plain rfl (fun K hK => ?_); go_simp; refine hK _ _ ?_; clear hK K)
      (refine wpList_plain rfl (fun K hK => ?_); go_simp; refine hK _ _ ?_; clear hK K)
      have hr := (Own.of_bk (k := .u32) (xs := [x]) (base := 0) (Bk.new wr 41 (va .u32 [x])) (Nat.zero_le _) rfl (by simp)).rd
      have hn := (Below.refl wr.heap.size wr).alloc (Nat.le_refl _) (.cells (va .u32 [x]) 41)
      have ho := HOWN.out.below hn
      have hb := HBEL.out.trans (hn.mono (by omega))
      rw [show Obj.cells #[.int .u32 (x : Int)] 41 = Obj.cells (va .u32 [x]) 41 from rfl]
      generalize wr.alloc (.cells (va .u32 [x]) 41) = w2 at hr hn ho hb ⊢
      have hsb := hb.size
      go_wp2_with (at_builtin; refine wpList_append_rd _ rfl (.tmp 25) (.tmp 27) _ rfl .u32 w.heap.size 41 i0 (.int .u32 0) 4 Try.underlying48 hi0 hz0 hz1 hz2 rfl A t k ((List.range t).map (kchN a b c d)) rfl ho _ _ _ _ rfl hr (by unfold maxLen; omega) (by omega) (by omega) ?_)
      intro A' k' w3 ho' hb' _ _
      have hs3 := hb'.size
      have hN := rnext_any w3 ha (by assumption : b < 4294967296) lx hd
      rw [HAP.out] at ho'
      go_wp2_with (go_at_call 45; refine hN.mono ?_; rintro e w4 ⟨rfl, b4⟩)
      have h34 : w.heap.size ≤ w3.heap.size := by omega
      exact ⟨⟨t + 1, A', k', by omega, by rw [HNX.out], by go_num, rfl, ho'.below b4, (hb.trans hb').trans (b4.mono h34)⟩, by simp [intOf]; omega⟩
    · obtain rfl : n = t := by omega
      go_wp2_with fail
      go_ret2
      exact ⟨A, k, rfl, hown.rd, hbel⟩
theorem rhops_out (w : World) {a b c d l : Value} (z : Int) (hz : z < 0 ∨ 256 < z) : Calls Try.prog 37 #[a, b, c, d, l, .int .i64 z] w fun e w' => e = .returned (.tuple #[.int .i64 0, .int .i64 1]) ∧ Below w.heap.size w w' := by
  go_enter Try.func37, Try.ntmps37
  rcases hz with hz | hz
  · go_wp2
    go_ret2
    exact ⟨rfl, Below.refl _ _⟩
  · have hz2 : ¬ z < 0 := by omega
    go_wp2
    go_ret2
    exact ⟨rfl, Below.refl _ _⟩
theorem rhops_any (w : World) {a b c d last most : Nat} (ha : a < 4294967296) (hb : b < 4294967296) (hc : c < 4294967296) (hd : d < 4294967296) (hl : last < 4294967296) (hm : most ≤ 256) :
    Calls Try.prog 37 #[.int .u32 (a : Int), .int .u32 (b : Int), .int .u32 (c : Int), .int .u32 (d : Int), .int .u32 (last : Int), .int .i64 (most : Int)] w fun e w' => ∃ k err, e = .returned (.tuple #[.int .i64 ((k : Nat) : Int), .int .i64 ((err : Nat) : Int)]) ∧ HopsN a b c d last most k err ∧ Below w.heap.size w w' := by
  have z1 : ¬ (most : Int) < 0 := by omega
  have z2 : ¬ 256 < (most : Int) := by omega
  go_enter Try.func37, Try.ntmps37
  go_wp2_with fail
  go_loopw [2, 14] (fun f i wr => ∃ t : Nat, t ≤ most + 1 ∧ f = .int .u32 ((kchN a b c d t : Nat) : Int) ∧ i = .int .i64 (t : Int) ∧ (∀ j, j < t → kchN a b c d j ≠ last) ∧ Below w.heap.size w wr) (fun _ i _ => most + 1 - (intOf i).toNat)
  case atStart => exact ⟨0, by omega, rfl, rfl, fun j h => absurd h (by omega), Below.refl _ _⟩
  case round =>
    obtain ⟨t, ht, rfl, rfl, hno, hbel⟩ := hrel
    have hsr := hbel.size
    have HNO := Lib.hid hno
    clear hno
    obtain ⟨x, hx⟩ : ∃ z, kchN a b c d t = z := ⟨_, rfl⟩
    have lx : x < 4294967296 := by rw [← hx]; exact kchN_lt hc t
    have HNX := Lib.hid (show kchN a b c d (t + 1) = nextN a b x d by rw [← hx]; rfl)
    have HX := Lib.hid hx
    rw [hx]
    clear hx
    by_cases hlt : t ≤ most
    · have t0 : (t : Int) ≤ (most : Int) := by omega
      by_cases hxl : x = last
      · have hf : HopsN a b c d last most t 0 := .inl ⟨rfl, hlt, by rw [HX.out]; exact hxl, HNO.out⟩
        have HF := Lib.hid hf
        subst hxl
        clear hf
        go_wp2_with fail
        go_ret2
        exact ⟨t, 0, rfl, HF.out, hbel⟩
      · have t1 : ¬ (x : Int) = (last : Int) := by omega
        have t2 := decide_eq_false t1
        have hno2 : ∀ i, i < t + 1 → kchN a b c d i ≠ last := fun i hi => by
          rcases Nat.lt_or_ge i t with h | h
          · exact HNO.out i h
          · obtain rfl : i = t := by omega
            rw [HX.out]; exact hxl
        have HNO2 := Lib.hid hno2
        have i1 : IntKind.i64.wrap ((t : Int) + 1) = (t : Int) + 1 := IntWalk.i64_in _ (by omega)
        have hN := rnext_any wr ha hb lx hd
        clear hno2 hxl
        go_wp2_with (go_at_call 45; refine hN.mono ?_; rintro e w4 ⟨rfl, b4⟩)
        exact ⟨⟨t + 1, by omega, by rw [HNX.out], by go_num, HNO2.out, hbel.trans (b4.mono hsr)⟩, by simp [intOf]; omega⟩
    · have t0 : ¬ (t : Int) ≤ (most : Int) := by omega
      have t1 := decide_eq_false t0
      have hf : HopsN a b c d last most 0 110 := .inr ⟨rfl, rfl, fun i hi => HNO.out i (by omega)⟩
      have HF := Lib.hid hf
      clear hf
      go_wp2_with fail
      go_ret2
      exact ⟨0, 110, rfl, HF.out, hbel⟩
theorem same_any (w : World) {A B : Option Addr} {n c m d : Nat} {xs ys : List Nat} (ha : Rd .u32 w A n c xs) (hb : Rd .u32 w B m d ys) (hxy : xs = ys) :
    Calls Try.prog 38 #[.slice A n c, .slice B m d] w fun e w' => e = .returned (.bool true) ∧ Below w.heap.size w w' := by
  have hmn : m = n := by rw [← hb.len, ← ha.len, hxy]
  subst hmn
  have hm := ha.max
  have t0 : decide ((m : Int) = (m : Int)) = true := by simp
  go_enter Try.func38, Try.ntmps38
  go_wp2_with fail
  go_loopw [5] (fun i wr => ∃ t : Nat, t ≤ m ∧ i = .int .i64 (t : Int) ∧ Below w.heap.size w wr) (fun i _ => m - (intOf i).toNat)
  case atStart => exact ⟨0, by omega, rfl, Below.refl _ _⟩
  case round =>
    obtain ⟨t, ht, rfl, hbel⟩ := hrel
    by_cases hlt : t < m
    · obtain ⟨aa, rfl, _, hca⟩ := (ha.below hbel).form (by omega)
      obtain ⟨ab, rfl, _, hcb⟩ := (hb.below hbel).form (by omega)
      obtain ⟨x, ex⟩ : ∃ z, gd xs t = z := ⟨_, rfl⟩
      have ca := hca t hlt
      have cb := hcb t hlt
      rw [← hxy] at cb
      rw [ex] at ca cb
      have a1 : (t : Int) < (m : Int) := by omega
      have a0 : (0 : Int) ≤ (t : Int) := by omega
      have i1 : IntKind.i64.wrap ((t : Int) + 1) = (t : Int) + 1 := IntWalk.i64_in _ (by omega)
      have HB := Lib.hid hbel
      clear ex hca hcb hbel hxy
      go_wp2_with fail
      go_quiet (fail)
      go_wp2_with fail
      exact ⟨⟨t + 1, by omega, by go_num, below_drewN HB.out _⟩, by simp [intOf]; omega⟩
    · obtain rfl : m = t := by omega
      go_wp2_with fail
      go_ret
      exact ⟨rfl, hbel⟩
end Go.Proofs.Ytiimflmbcgnbeaa

/- Lists of key numbers, their parts, and hops: the walks. -/
namespace Go.Proofs.Ytiimflmbcgnbeaa
set_option linter.unusedSimpArgs false
set_option linter.unusedVariables false
open Go.RowKit Go.Proofs.YtiimflmbcgnbeaaW.PrintWords

theorem u32_nat {z : Int} (h : (Lit.int .u32 z).wf = true) : ∃ n : Nat, z = (n : Int) ∧ n < 4294967296 := by
  have := u32_wf h
  exact ⟨z.toNat, by omega, by omega⟩
theorem lists_same (w : World) {a b c d : Nat} (n : Int) (la : a < 4294967296) (lb : b < 4294967296) (lc : c < 4294967296) (ld : d < 4294967296) :
    ∃ (m : Nat) (xs : List Nat) (e0 : Int), (Calls Try.prog 34 #[.int .u32 (a : Int), .int .u32 (b : Int), .int .u32 (c : Int), .int .u32 (d : Int), .int .i64 n] w fun e w' => ∃ A k, e = .returned (.tuple #[.slice A m k, .int .i64 e0]) ∧ Rd .u32 w' A m k xs ∧ Below w.heap.size w w') ∧
      ∀ w' : World, Calls Try.prog 35 #[.int .u32 (a : Int), .int .u32 (b : Int), .int .u32 (c : Int), .int .u32 (d : Int), .int .i64 n] w' fun e w'' => ∃ A k, e = .returned (.tuple #[.slice A m k, .int .i64 e0]) ∧ Rd .u32 w'' A m k xs ∧ Below w'.heap.size w' w'' := by
  by_cases h : n < 1 ∨ 256 < n
  · exact ⟨0, [], 1, (list_out w n h).mono fun e w' ⟨he, hb⟩ => ⟨none, 0, he, Rd.nil _ _ _ _, hb⟩, fun w' => (rlist_out w' n h).mono fun e w'' ⟨he, hb⟩ => ⟨none, 0, he, Rd.nil _ _ _ _, hb⟩⟩
  · obtain ⟨m, rfl⟩ : ∃ m : Nat, n = (m : Int) := ⟨n.toNat, by omega⟩
    exact ⟨m, _, 0, (list_any w la lb lc ld (by omega) (by omega)).mono fun e w' ⟨A, k, he, hr, _, hb⟩ => ⟨A, k, he, hr, hb⟩, fun w' => rlist_any w' la lb lc ld (by omega) (by omega)⟩
theorem hops_same (a b c d last : Nat) (most : Int) (la : a < 4294967296) (lb : b < 4294967296) (lc : c < 4294967296) (ld : d < 4294967296) (ll : last < 4294967296) :
    ∃ (k e0 : Int), (∀ w : World, Calls Try.prog 36 #[.int .u32 (a : Int), .int .u32 (b : Int), .int .u32 (c : Int), .int .u32 (d : Int), .int .u32 (last : Int), .int .i64 most] w fun e w' => e = .returned (.tuple #[.int .i64 k, .int .i64 e0]) ∧ Below w.heap.size w w') ∧
      ∀ w : World, Calls Try.prog 37 #[.int .u32 (a : Int), .int .u32 (b : Int), .int .u32 (c : Int), .int .u32 (d : Int), .int .u32 (last : Int), .int .i64 most] w fun e w' => e = .returned (.tuple #[.int .i64 k, .int .i64 e0]) ∧ Below w.heap.size w w' := by
  by_cases h : most < 0 ∨ 256 < most
  · exact ⟨0, 1, fun w => hops_out w most h, fun w => rhops_out w most h⟩
  · obtain ⟨m, rfl⟩ : ∃ m : Nat, most = (m : Int) := ⟨most.toNat, by omega⟩
    have hex : ∃ k err, HopsN a b c d last m k err := by
      by_cases hx : ∃ i, i ≤ m ∧ kchN a b c d i = last
      · have key : ∀ n, n ≤ m + 1 → (∀ j, j < n → kchN a b c d j ≠ last) ∨ ∃ k, k ≤ m ∧ kchN a b c d k = last ∧ ∀ j, j < k → kchN a b c d j ≠ last := by
          intro n
          induction n with
          | zero => exact fun _ => .inl fun j h => absurd h (by omega)
          | succ n ih =>
            intro hn
            rcases ih (by omega) with h1 | h1
            · by_cases e : kchN a b c d n = last
              · exact .inr ⟨n, by omega, e, h1⟩
              · exact .inl fun j hj => by
                  rcases Nat.lt_or_ge j n with h2 | h2
                  · exact h1 j h2
                  · obtain rfl : j = n := by omega
                    exact e
            · exact .inr h1
        rcases key (m + 1) (Nat.le_refl _) with h1 | ⟨k, h1, h2, h3⟩
        · obtain ⟨i, hi, he⟩ := hx
          exact absurd he (h1 i (by omega))
        · exact ⟨k, 0, .inl ⟨rfl, h1, h2, h3⟩⟩
      · exact ⟨0, 110, .inr ⟨rfl, rfl, fun i hi he => hx ⟨i, hi, he⟩⟩⟩
    obtain ⟨k, err, hh⟩ := hex
    refine ⟨(k : Int), (err : Int), fun w => (hops_any w la lb lc ld ll (by omega)).mono ?_, fun w => (rhops_any w la lb lc ld ll (by omega)).mono ?_⟩
    · rintro e w' ⟨k', err', rfl, h', hb⟩
      obtain ⟨rfl, rfl⟩ := h'.same hh
      exact ⟨rfl, hb⟩
    · rintro e w' ⟨k', err', rfl, h', hb⟩
      obtain ⟨rfl, rfl⟩ := h'.same hh
      exact ⟨rfl, hb⟩
set_option maxHeartbeats 1000000 in
theorem walk_KeysLists (a b c d n l m : Int) (W : World) (wa : (Lit.int .u32 a).wf = true) (wb : (Lit.int .u32 b).wf = true) (wc : (Lit.int .u32 c).wf = true) (wd : (Lit.int .u32 d).wf = true) (wn : (Lit.int .i64 n).wf = true) (wl : (Lit.int .u32 l).wf = true) (wm : (Lit.int .i64 m).wf = true) :
    Calls Try.prog 11 #[.int .u32 a, .int .u32 b, .int .u32 c, .int .u32 d, .int .i64 n, .int .u32 l, .int .i64 m] W fun e w' => e = .returned (.bool true) ∧ Below W.heap.size W w' := by
  obtain ⟨a, rfl, la⟩ := u32_nat wa
  obtain ⟨b, rfl, lb⟩ := u32_nat wb
  obtain ⟨c, rfl, lc⟩ := u32_nat wc
  obtain ⟨d, rfl, ld⟩ := u32_nat wd
  obtain ⟨l, rfl, ll⟩ := u32_nat wl
  have hcases : (12 < n ∧ n ≤ 256) ∨ (¬ (12 < n ∧ n ≤ 256) ∧ (12 < m ∧ m ≤ 256)) ∨ (¬ (12 < n ∧ n ≤ 256) ∧ ¬ (12 < m ∧ m ≤ 256)) := by omega
  obtain ⟨q, xs, e0, hL, hR⟩ := lists_same W n la lb lc ld
  obtain ⟨k, f0, hH, hG⟩ := hops_same a b c d l m la lb lc ld ll
  go_enter Try.func11, Try.ntmps11
  have hmain : (¬ (12 < n ∧ n ≤ 256) ∧ ¬ (12 < m ∧ m ≤ 256)) ∨ ((12 < n ∧ n ≤ 256) ∨ (¬ (12 < n ∧ n ≤ 256) ∧ (12 < m ∧ m ≤ 256))) := by omega
  clear hcases
  rcases hmain with ⟨h1, h2⟩ | hbad
  · have g1 : (12 < n ∧ 256 < n) ∨ n ≤ 12 := by omega
    have g2 : (12 < m ∧ 256 < m) ∨ m ≤ 12 := by omega
    clear h1 h2
    rcases g1 with ⟨g1, g1'⟩ | g1 <;> rcases g2 with ⟨g2, g2'⟩ | g2
    all_goals
      go_upto_region 7 with (first
        | (go_at_call 37; refine (hG _).mono ?_; rintro e w4 ⟨rfl, b4⟩)
        | (go_at_call 36; refine (hH _).mono ?_; rintro e w3 ⟨rfl, b3⟩)
        | (go_at_call 35; refine (hR _).mono ?_; rintro e w2 ⟨A2, k2, rfl, r2, b2⟩)
        | (go_at_call 34; refine hL.mono ?_; rintro e w1 ⟨A1, k1, rfl, r1, b1⟩))
      have b34 := b3.trans (b4.mono b3.size)
      have b24 := b2.trans (b34.mono b2.size)
      have b14 := b1.trans (b24.mono b1.size)
      have s14 := b14.size
      have hSm := fun w' (h : Below w4.heap.size w4 w') => same_any w' ((r1.below b24).below h) ((r2.below b34).below h) rfl
      go_wp2_with (first
        | (go_at_call 38; refine (hSm _ b5).mono ?_; rintro e w6 ⟨rfl, b6⟩)
        | (go_at_call 33; refine (kalive_any _).mono ?_; rintro e w5 ⟨rfl, b5⟩))
      go_ret
      exact ⟨rfl, b14.trans ((b5.trans (b6.mono b5.size)).mono s14)⟩
  · rcases hbad with ⟨h1, h2⟩ | ⟨h1, h2, h3⟩
    · skip
      go_wp2_with (go_at_call 33; refine (kalive_any _).mono ?_; rintro e w1 ⟨rfl, hb1⟩)
      go_ret
      exact ⟨rfl, hb1⟩
    · have g1 : (12 < n ∧ 256 < n) ∨ n ≤ 12 := by omega
      clear h1
      rcases g1 with ⟨g1, g1'⟩ | g1
      · skip
        go_wp2_with (go_at_call 33; refine (kalive_any _).mono ?_; rintro e w1 ⟨rfl, hb1⟩)
        go_ret
        exact ⟨rfl, hb1⟩
      · skip
        go_wp2_with (go_at_call 33; refine (kalive_any _).mono ?_; rintro e w1 ⟨rfl, hb1⟩)
        go_ret
        exact ⟨rfl, hb1⟩
end Go.Proofs.Ytiimflmbcgnbeaa

/- A part of a list is the list that begins there; each number leads to each later one: the walks. -/
namespace Go.Proofs.Ytiimflmbcgnbeaa
set_option linter.unusedSimpArgs false
set_option linter.unusedVariables false
open Go.RowKit Go.Proofs.YtiimflmbcgnbeaaW.PrintWords

theorem w64n {p : Nat} (h : p ≤ 100000) : wrap64 (p : Int) = (p : Int) := by unfold wrap64; omega
theorem wi64n {p : Nat} (h : p ≤ 100000) : IntKind.i64.wrap (p : Int) = (p : Int) := IntWalk.i64_in _ (by omega)
theorem wi64s {m j : Nat} (h : m ≤ 100000) (h' : j ≤ 100000) : IntKind.i64.wrap ((m : Int) - (j : Int)) = (m : Int) - (j : Int) := IntWalk.i64_in _ (by omega)
theorem kchN_add (a b c d i : Nat) : ∀ j, kchN a b (kchN a b c d i) d j = kchN a b c d (i + j)
  | 0 => rfl
  | j + 1 => by
    show nextN a b (kchN a b (kchN a b c d i) d j) d = nextN a b (kchN a b c d (i + j)) d
    rw [kchN_add a b c d i j]
theorem part_list (a b c d n i : Nat) : (List.range (n - i)).map (kchN a b (kchN a b c d i) d) = ((List.range n).map (kchN a b c d)).drop i := by
  apply List.ext_getElem
  · simp
  · intro j h1 h2
    simp [kchN_add]
theorem list_gd (f : Nat → Nat) {n i : Nat} (h : i < n) : gd ((List.range n).map f) i = f i := by
  rw [gd_lt (by simpa using h)]; simp
theorem run_from32 (A : Option Addr) (n c lo : Nat) (h1 : lo ≤ n) (W : World) : (Instr.slice 48 (.slice A n c) (some (.int .i64 (lo : Int))) none none).run Try.prog W = .ok (.slice (cutA c lo A) (n - lo) (c - lo)) W := by
  obtain ⟨i0, hi0, _, hz1, _⟩ := info_parts info_u32
  have := cut_from (P := Try.prog) 48 41 .i64 Try.underlying48 hi0 1 hz1 A n c (lo : Int) (by omega) (by omega) W
  rw [this]
  simp [cutA]
theorem hops_ex (a b c d last m : Nat) : ∃ k err, HopsN a b c d last m k err := by
  by_cases hx : ∃ i, i ≤ m ∧ kchN a b c d i = last
  · have key : ∀ n, n ≤ m + 1 → (∀ j, j < n → kchN a b c d j ≠ last) ∨ ∃ k, k ≤ m ∧ kchN a b c d k = last ∧ ∀ j, j < k → kchN a b c d j ≠ last := by
      intro n
      induction n with
      | zero => exact fun _ => .inl fun j h => absurd h (by omega)
      | succ n ih =>
        intro hn
        rcases ih (by omega) with h1 | h1
        · by_cases e : kchN a b c d n = last
          · exact .inr ⟨n, by omega, e, h1⟩
          · exact .inl fun j hj => by
              rcases Nat.lt_or_ge j n with h2 | h2
              · exact h1 j h2
              · obtain rfl : j = n := by omega
                exact e
        · exact .inr h1
    rcases key (m + 1) (Nat.le_refl _) with h1 | ⟨k, h1, h2, h3⟩
    · obtain ⟨i, hi, he⟩ := hx
      exact absurd he (h1 i (by omega))
    · exact ⟨k, 0, .inl ⟨rfl, h1, h2, h3⟩⟩
  · exact ⟨0, 110, .inr ⟨rfl, rfl, fun i hi he => hx ⟨i, hi, he⟩⟩⟩
theorem hops_leads {a b x d y p : Nat} (la : a < 4294967296) (lb : b < 4294967296) (lx : x < 4294967296) (ld : d < 4294967296) (ly : y < 4294967296) (hp : p ≤ 256) (h : kchN a b x d p = y) :
    ∃ h : Nat, h ≤ p ∧ ∀ w : World, Calls Try.prog 36 #[.int .u32 (a : Int), .int .u32 (b : Int), .int .u32 (x : Int), .int .u32 (d : Int), .int .u32 (y : Int), .int .i64 (p : Int)] w fun e w' => e = .returned (.tuple #[.int .i64 (h : Int), .int .i64 0]) ∧ Below w.heap.size w w' := by
  obtain ⟨k, err, hh⟩ := hops_ex a b x d y p
  have h0 : err = 0 ∧ k ≤ p := by
    rcases hh with ⟨h1, h2, _⟩ | ⟨_, _, h3⟩
    · exact ⟨h1, h2⟩
    · exact absurd h (h3 p (Nat.le_refl _))
  obtain ⟨rfl, hk⟩ := h0
  refine ⟨k, hk, fun w => (hops_any w la lb lx ld ly hp).mono ?_⟩
  rintro e w' ⟨k', err', rfl, h', hb⟩
  obtain ⟨rfl, rfl⟩ := h'.same hh
  exact ⟨rfl, hb⟩
set_option maxHeartbeats 1000000 in
theorem walk_KeysParts (a b c d n i : Int) (W : World) (wa : (Lit.int .u32 a).wf = true) (wb : (Lit.int .u32 b).wf = true) (wc : (Lit.int .u32 c).wf = true) (wd : (Lit.int .u32 d).wf = true) (wn : (Lit.int .i64 n).wf = true) (wi : (Lit.int .i64 i).wf = true) :
    Calls Try.prog 13 #[.int .u32 a, .int .u32 b, .int .u32 c, .int .u32 d, .int .i64 n, .int .i64 i] W fun e w' => e = .returned (.bool true) ∧ Below W.heap.size W w' := by
  obtain ⟨a, rfl, la⟩ := u32_nat wa
  obtain ⟨b, rfl, lb⟩ := u32_nat wb
  obtain ⟨c, rfl, lc⟩ := u32_nat wc
  obtain ⟨d, rfl, ld⟩ := u32_nat wd
  go_enter Try.func13, Try.ntmps13
  by_cases h1 : n < 1
  · skip
    go_wp2_with (go_at_call 33; refine (kalive_any _).mono ?_; rintro e w1 ⟨rfl, hb1⟩)
    go_ret
    exact ⟨rfl, hb1⟩
  by_cases h2 : 40 < n
  · skip
    go_wp2_with (go_at_call 33; refine (kalive_any _).mono ?_; rintro e w1 ⟨rfl, hb1⟩)
    go_ret
    exact ⟨rfl, hb1⟩
  by_cases h3 : i < 0
  · skip
    go_wp2_with (go_at_call 33; refine (kalive_any _).mono ?_; rintro e w1 ⟨rfl, hb1⟩)
    go_ret
    exact ⟨rfl, hb1⟩
  by_cases h4 : n ≤ i
  · skip
    go_wp2_with (go_at_call 33; refine (kalive_any _).mono ?_; rintro e w1 ⟨rfl, hb1⟩)
    go_ret
    exact ⟨rfl, hb1⟩
  obtain ⟨m, rfl⟩ : ∃ m : Nat, n = (m : Int) := ⟨n.toNat, by omega⟩
  obtain ⟨j, rfl⟩ : ∃ j : Nat, i = (j : Int) := ⟨i.toNat, by omega⟩
  have hjm : j < m := by omega
  obtain ⟨x, hx⟩ : ∃ z, kchN a b c d j = z := ⟨_, rfl⟩
  have lx : x < 4294967296 := by rw [← hx]; exact kchN_lt lc j
  obtain ⟨p, hp⟩ : ∃ p, m - j = p := ⟨_, rfl⟩
  have hL := list_any W la lb lc ld (n := m) (by omega) (by omega)
  have HP := Lib.hid (part_list a b c d m j)
  rw [hx, hp] at HP
  have HGD := Lib.hid (show gd ((List.range m).map (kchN a b c d)) j = x by rw [list_gd _ hjm]; exact hx)
  go_upto_region 6 with (go_at_call 34; refine hL.mono ?_; rintro e w1 ⟨A1, k1, rfl, r1, _, b1⟩)
  obtain ⟨ad, rfl, _, hac⟩ := r1.form (by omega)
  have cx := hac j hjm
  rw [HGD.out] at cx
  have a1 : (j : Int) < (m : Int) := by omega
  have a0 : (0 : Int) ≤ (j : Int) := by omega
  have hM := list_any w1 la lb lx ld (n := p) (by omega) (by omega)
  have e2 : (m : Int) - (j : Int) = (p : Int) := by omega
  have hm1 : m ≤ 100000 := by omega
  have hj1 : j ≤ 100000 := by omega
  have hp1 : p ≤ 100000 := by omega
  have hs1 := b1.size
  have hpm : p = m - j := by omega
  have e1 := wi64s hm1 hj1
  have e3 := w64n hp1
  have e4 := wi64n hp1
  clear hpm
  clear hac hL hx h1 h2 h3 h4
  go_upto_region 7 with (go_at_call 34; refine hM.mono ?_; rintro e w2 ⟨A2, k2, rfl, r2, _, b2⟩)
  have b12 := b1.trans (b2.mono hs1)
  have hcap := r1.cap
  have X := fun W' => run_from32 (some ad) m k1 j (Nat.le_of_lt hjm) W'
  rw [hp] at X
  have hSm : ∀ w' : World, Below w2.heap.size w2 w' → Calls Try.prog 38 #[.slice A2 p k2, .slice (cutA k1 j (some ad)) p (k1 - j)] w' fun e w'' => e = .returned (.bool true) ∧ Below w'.heap.size w' w'' := by
    intro w' h
    have hd : Rd .u32 w' (cutA k1 j (some ad)) (m - j) (k1 - j) (((List.range m).map (kchN a b c d)).drop j) := ((r1.below b2).below h).drop (m := j) (Nat.le_of_lt hjm)
    rw [hp] at hd
    exact same_any w' (r2.below h) hd HP.out
  have hs2 := b12.size
  clear hM cx hp e1 e2
  go_wp2_with (first
    | (go_at_call 38; refine (hSm _ b5).mono ?_; rintro e w6 ⟨rfl, b6⟩)
    | (go_at_call 33; refine (kalive_any _).mono ?_; rintro e w5 ⟨rfl, b5⟩))
  go_ret
  exact ⟨rfl, b12.trans ((b5.trans (b6.mono b5.size)).mono hs2)⟩
set_option maxHeartbeats 1000000 in
theorem walk_KeysLeads (a b c d n i k : Int) (W : World) (wa : (Lit.int .u32 a).wf = true) (wb : (Lit.int .u32 b).wf = true) (wc : (Lit.int .u32 c).wf = true) (wd : (Lit.int .u32 d).wf = true) (wn : (Lit.int .i64 n).wf = true) (wi : (Lit.int .i64 i).wf = true) (wk : (Lit.int .i64 k).wf = true) :
    Calls Try.prog 12 #[.int .u32 a, .int .u32 b, .int .u32 c, .int .u32 d, .int .i64 n, .int .i64 i, .int .i64 k] W fun e w' => e = .returned (.bool true) ∧ Below W.heap.size W w' := by
  obtain ⟨a, rfl, la⟩ := u32_nat wa
  obtain ⟨b, rfl, lb⟩ := u32_nat wb
  obtain ⟨c, rfl, lc⟩ := u32_nat wc
  obtain ⟨d, rfl, ld⟩ := u32_nat wd
  go_enter Try.func12, Try.ntmps12
  by_cases h1 : 40 < n
  · skip
    go_wp2_with (go_at_call 33; refine (kalive_any _).mono ?_; rintro e w1 ⟨rfl, hb1⟩)
    go_ret
    exact ⟨rfl, hb1⟩
  by_cases h2 : i < 0
  · skip
    go_wp2_with (go_at_call 33; refine (kalive_any _).mono ?_; rintro e w1 ⟨rfl, hb1⟩)
    go_ret
    exact ⟨rfl, hb1⟩
  by_cases h3 : k < i
  · skip
    go_wp2_with (go_at_call 33; refine (kalive_any _).mono ?_; rintro e w1 ⟨rfl, hb1⟩)
    go_ret
    exact ⟨rfl, hb1⟩
  by_cases h4 : n ≤ k
  · skip
    go_wp2_with (go_at_call 33; refine (kalive_any _).mono ?_; rintro e w1 ⟨rfl, hb1⟩)
    go_ret
    exact ⟨rfl, hb1⟩
  obtain ⟨m, rfl⟩ : ∃ m : Nat, n = (m : Int) := ⟨n.toNat, by omega⟩
  obtain ⟨j, rfl⟩ : ∃ j : Nat, i = (j : Int) := ⟨i.toNat, by omega⟩
  obtain ⟨q, rfl⟩ : ∃ q : Nat, k = (q : Int) := ⟨k.toNat, by omega⟩
  have hqm : q < m := by omega
  have hjq : j ≤ q := by omega
  obtain ⟨x, hx⟩ : ∃ z, kchN a b c d j = z := ⟨_, rfl⟩
  have lx : x < 4294967296 := by rw [← hx]; exact kchN_lt lc j
  obtain ⟨y, hy⟩ : ∃ z, kchN a b c d q = z := ⟨_, rfl⟩
  have ly : y < 4294967296 := by rw [← hy]; exact kchN_lt lc q
  obtain ⟨p, hp⟩ : ∃ p, q - j = p := ⟨_, rfl⟩
  have hL := list_any W la lb lc ld (n := m) (by omega) (by omega)
  have HXY := Lib.hid (show kchN a b x d p = y by rw [← hx, kchN_add, ← hp, ← hy]; congr 1; omega)
  have HGX := Lib.hid (show gd ((List.range m).map (kchN a b c d)) j = x by rw [list_gd _ (by omega)]; exact hx)
  have HGY := Lib.hid (show gd ((List.range m).map (kchN a b c d)) q = y by rw [list_gd _ hqm]; exact hy)
  go_upto_region 6 with (go_at_call 34; refine hL.mono ?_; rintro e w1 ⟨A1, k1, rfl, r1, _, b1⟩)
  obtain ⟨ad, rfl, _, hac⟩ := r1.form (by omega)
  have cx := hac j (by omega)
  have cy := hac q (by omega)
  rw [HGX.out] at cx
  rw [HGY.out] at cy
  have a1 : (j : Int) < (m : Int) := by omega
  have a0 : (0 : Int) ≤ (j : Int) := by omega
  have a3 : (q : Int) < (m : Int) := by omega
  have a2 : (0 : Int) ≤ (q : Int) := by omega
  have e2 : (q : Int) - (j : Int) = (p : Int) := by omega
  have hq1 : q ≤ 100000 := by omega
  have hj1 : j ≤ 100000 := by omega
  have hp1 : p ≤ 100000 := by omega
  have hs1 := b1.size
  obtain ⟨h, hle, hH⟩ := hops_leads la lb lx ld ly (by omega) HXY.out
  have CX := fun i : Bels w1.heap.size w1 => (i.h.cell (p := ad.add j) (by rw [Go.ChangeShapes.block_add]; assumption)).trans cx
  have CY := fun i : Bels w1.heap.size w1 => (i.h.cell (p := ad.add q) (by rw [Go.ChangeShapes.block_add]; assumption)).trans cy
  have t1 : (0 : Int) ≤ (h : Int) := by omega
  have t2 : (h : Int) ≤ (p : Int) := by omega
  have e1 := wi64s hq1 hj1
  have e3 := w64n hp1
  have e4 := wi64n hp1
  clear hac hL hx hy hp h1 h2 h3 h4 cx cy
  refine bels_region (by kernel_rfl) (by kernel_rfl) ?_
  (repeat (refine wpQuiet_step (fun K hK => ?_); go_simp; refine hK _ ?_; clear hK K))
  (refine wpQuiet_step (fun K hK => ?_); go_simp; apply Exists.intro; refine ⟨fun i => ?_, hK _ ?_⟩)
  · exact bels_call (Nat.le_refl _) (hH i.w)
  clear hK K
  (repeat (refine wpQuiet_step (fun K hK => ?_); go_simp; refine hK _ ?_; clear hK K))
  refine wpQuiet_nil ?_
  intro z
  have hb := b1.trans (z.h.mono hs1)
  have hsz := hb.size
  go_wp2_with (go_at_call 33; refine (kalive_any _).mono ?_; rintro e w5 ⟨rfl, b5⟩)
  go_ret
  exact ⟨rfl, hb.trans (b5.mono hsz)⟩
end Go.Proofs.Ytiimflmbcgnbeaa
