/- Shelves: a shelf in memory; New, Put, Get. -/
import Derived.Test.YtkmabfdnekphnaaJ0
import Derived.Maps.OwnSet
namespace Go.Proofs.Ytkmabfdnekphnaa
set_option linter.unusedSimpArgs false
set_option linter.unusedVariables false
set_option maxRecDepth 100000
open Go.RowKit
open Go.Maps (Keyed)
attribute [local go_sem] toldUpon_value toldUpon_skip toldUpon_enter

/-- how an element of the map reads: as itself -/
def RV (v : Value) : Option (DataW Value × List MemPlace) := some (.held v, [])
def z0 : Vl := ⟨0, 0, none, 0, 0, [], none, 0, 0, []⟩
theorem VR.z0 (w : World) : VR w z0 := ⟨Rd.nil _ _ _ _, Rd.nil _ _ _ _, by decide, by decide, by simp [Go.Proofs.Ytkmabfdnekphnaa.z0], by simp [Go.Proofs.Ytkmabfdnekphnaa.z0]⟩
theorem zeroV (w : World) : (zeroValue 25).run Try.prog w = .ok (vv z0) w := by kernel_rfl
theorem keyI : Keyed Try.prog 3 := Go.Maps.int_keyed Try.underlying3
abbrev OM (w : World) (b n : Nat) (D : DataW Value) : Prop := w.ownsMap Try.prog 3 RV b n D
def gv (D : DataW Value) (s : Int) : Value := match D.atKey (.int .i64 s) (.held (vv z0)) with | .held x => x | _ => undef
def I64w (s : Int) : Prop := (Lit.int .i64 s).wf = true
theorem look_run {w : World} {b n : Nat} {D : DataW Value} (h : OM w b n D) {s : Int} (hs : I64w s) : (Instr.lookup 52 (.map (some b)) (.int .i64 s) true).run Try.prog w = .ok (.tuple #[gv D s, .bool (Maps.has D (.int .i64 s))]) w := by
  obtain ⟨v, ps, hr, hv⟩ := h.look_ok keyI Try.underlying52 (zeroV w) rfl (Go.Maps.keyOf_int_mk Try.underlying3 hs)
  rw [hr]
  unfold RV at hv
  simp only [Option.some.injEq, Prod.mk.injEq] at hv
  unfold gv
  rw [← hv.1]
theorem len_run {w : World} {b n : Nat} {D : DataW Value} (h : OM w b n D) (ty : TypeId) : (Builtin.len_ #[52] ty #[.map (some b)]).run Try.prog w = .ok (.int .i64 (Maps.size D)) w := h.len Try.underlying52 ty
theorem gv_miss {D : DataW Value} {s : Int} (h : Maps.has D (.int .i64 s) = false) : gv D s = vv z0 := by
  unfold gv; rw [Go.Maps.atKey_of_not_has h]
theorem isKey (s : Int) : WideAt.IsKeyLit (.int .i64 s) := trivial
theorem gv_put {D : DataW Value} (hD : Go.Maps.IsMap D) (s : Int) (x : Value) : gv (D.put (.int .i64 s) (.held x)) s = x := by
  unfold gv; rw [Go.Maps.atKey_put_same hD (isKey s)]
theorem key_ne {s s' : Int} (h : s' ≠ s) : Lit.int .i64 s' ≠ Lit.int .i64 s := fun e => h (by simpa using e)
theorem gv_put_ne {D : DataW Value} {s s' : Int} (h : s' ≠ s) (x : Value) : gv (D.put (.int .i64 s) (.held x)) s' = gv D s' := by
  unfold gv; rw [Go.Maps.atKey_put_other (key_ne h)]
theorem OM.grown {w w' : World} {b n : Nat} {D : DataW Value} {r : Option Nat} (h : OM w b n D) (hg : w.grownBy w' r) (hne : some b ≠ r) : OM w' b n D := h.kept hg hne
theorem OM.below {w w' : World} {b n : Nat} {D : DataW Value} (h : OM w b n D) (hb : Below w.heap.size w w') : OM w' b n D :=
  h.kept (row := none) ⟨hb.os, hb.tape, hb.output, hb.size, fun k hk _ => hb.block k hk⟩ (by simp)
theorem gof {w w' : World} (h : Below w.heap.size w w') (r : Option Nat) : w.grownBy w' r := ⟨h.os, h.tape, h.output, h.size, fun k hk _ => h.block k hk⟩
theorem gtr {a b c : World} {r : Option Nat} (h : a.grownBy b r) (h' : b.grownBy c r) : a.grownBy c r :=
  ⟨h'.os.trans h.os, h'.tape.trans h.tape, h'.output.trans h.output, Nat.le_trans h.size h'.size, fun k hk hne => (h'.block k (Nat.lt_of_lt_of_le hk h.size) hne).trans (h.block k hk hne)⟩
theorem Bk.grown {w w' : World} {g : Nat} {t : TypeId} {cs : Array Value} {r : Option Nat} (h : Bk w g t cs) (hg : w.grownBy w' r) (hne : some g ≠ r) : Bk w' g t cs := (hg.block g h.lt hne).trans h
theorem Rd.grownO {k : IntKind} {w w' : World} {A : Option Addr} {n c : Nat} {xs : List Nat} {r : Option Nat} (h : Rd k w A n c xs) (hg : w.grownBy w' r) (hne : ∀ ad, A = some ad → some ad.block ≠ r) : Rd k w' A n c xs := by
  obtain ⟨h1, h2, h2', h3⟩ := h
  refine ⟨h1, h2, h2', fun hn => ?_⟩
  obtain ⟨ad, rfl, hlt, hc⟩ := h3 hn
  refine ⟨ad, rfl, Nat.lt_of_lt_of_le hlt hg.size, fun j x hx => ?_⟩
  rw [World.cell?_of_block (w := w) (a := ad.add j) (hg.block _ (by rw [Go.ChangeShapes.block_add]; exact hlt) (by rw [Go.ChangeShapes.block_add]; exact hne ad rfl))]
  exact hc j x hx
theorem Own.grownO {k : IntKind} {e : TypeId} {w w' : World} {base n c : Nat} {A : Option Addr} {xs : List Nat} {r : Option Nat} (h : Own k e w base A n c xs) (hg : w.grownBy w' r) (hne : ∀ b, r = some b → b < base) : Own k e w' base A n c xs := by
  refine ⟨h.1, ?_⟩
  rcases h.2 with hn | ⟨g, cap, cur, h1, hgb, hh, rest⟩
  · exact .inl hn
  · exact .inr ⟨g, cap, cur, h1, hgb, (hg.block g (Array.getElem?_eq_some_iff.1 hh).1 (fun e => by have := hne g e.symm; omega)).trans hh, rest⟩
theorem VO.grown {w w' : World} {base : Nat} {v : Vl} {r : Option Nat} (h : VO w base v) (hg : w.grownBy w' r) (hne : ∀ b, r = some b → b < base) : VO w' base v := ⟨h.1.grownO hg hne, h.2.grownO hg hne⟩
theorem VO.vr {w : World} {base : Nat} {v v' : Vl} (h : VO w base v') (hs : same v v') {w0 : World} (h0 : VR w0 v) : VR w v' := by
  obtain ⟨s1, s2, s3, s4, s5, s6⟩ := hs
  exact ⟨h.1.rd, h.2.rd, by have := h0.2.2.1; omega, by have := h0.2.2.2.1; omega, by rw [← s3]; exact h0.2.2.2.2.1, by rw [← s4]; exact h0.2.2.2.2.2⟩
theorem VR.grown {w w' : World} {v : Vl} {r : Option Nat} (h : VR w v) (hg : w.grownBy w' r) (hA : ∀ ad, v.A = some ad → some ad.block ≠ r) (hB : ∀ ad, v.B = some ad → some ad.block ≠ r) : VR w' v := ⟨h.1.grownO hg hA, h.2.1.grownO hg hB, h.2.2⟩
/-- a shelf in block g, its map in block b -/
def SH (w : World) (g room b n : Nat) (D : DataW Value) : Prop := Bk w g 54 #[.int .i64 (room : Int), .map (some b)] ∧ OM w b n D ∧ g ≠ b
theorem SH.below {w w' : World} {g room b n : Nat} {D : DataW Value} (h : SH w g room b n D) (hb : Below w.heap.size w w') : SH w' g room b n D := ⟨h.1.below hb h.1.lt, h.2.1.below hb, h.2.2⟩
theorem map_neq (w : World) (r : Option Nat) : (binOp .neq 52 (.map r) (.map none)).run Try.prog w = .ok (.bool (!r.isNone)) w := run_neq_map_nil w _ _ _ r Try.underlying52
set_option maxHeartbeats 1000000 in
theorem made_any (w : World) {g room b : Nat} (h : Bk w g 54 #[.int .i64 (room : Int), .map (some b)]) : Calls Try.prog 26 #[.pointer (some ⟨g, 0, none⟩)] w fun e w' => e = .returned (.bool true) ∧ w = w' := by
  have c1 := h.cell 1
  have hm := map_neq
  clear h
  go_enter Try.func26, Try.ntmps26
  go_wp2_with fail
  go_ret
  exact ⟨rfl, rfl⟩
/-- a shelf that no call made -/
theorem made_nil (w : World) : Calls Try.prog 26 #[.pointer none] w fun e w' => e = .returned (.bool false) ∧ w = w' := by
  go_enter Try.func26, Try.ntmps26
  go_wp2_with fail
  go_ret
  exact ⟨rfl, rfl⟩
theorem made_zero (w : World) {g : Nat} {room : Int} (h : Bk w g 54 #[.int .i64 room, .map none]) : Calls Try.prog 26 #[.pointer (some ⟨g, 0, none⟩)] w fun e w' => e = .returned (.bool false) ∧ w = w' := by
  have c1 := h.cell 1
  have hm := map_neq
  clear h
  go_enter Try.func26, Try.ntmps26
  go_wp2_with fail
  go_ret
  exact ⟨rfl, rfl⟩
theorem snew_any (w : World) (room : Nat) (h1 : 1 ≤ room) (h2 : room ≤ 64) : Calls Try.prog 9 #[.int .i64 (room : Int)] w fun e w' => e = .returned (.tuple #[.pointer (some ⟨w.heap.size + 1, 0, none⟩), .int .i64 0]) ∧ SH w' (w.heap.size + 1) room w.heap.size 0 (.map []) ∧ Below w.heap.size w w' := by
  have a1 : ¬ (room : Int) < 1 := by omega
  have a2 : ¬ (64 : Int) < (room : Int) := by omega
  have hmm := @run_makeMap Try.prog
  go_enter Try.func9, Try.ntmps9
  go_wp2_with fail
  go_ret2
  refine ⟨rfl, ⟨Bk.at_new _ _ (by simp), OM.below (World.ownsMap_made _ _ _ _) ((Below.refl _ _).alloc (by simp) _), by omega⟩, ((Below.refl _ _).alloc (Nat.le_refl _) _).alloc (by simp) _⟩
theorem snew_bad (w : World) (room : Int) (h : room < 1 ∨ 64 < room) : Calls Try.prog 9 #[.int .i64 room] w fun e w' => e = .returned (.tuple #[.pointer none, .int .i64 1]) ∧ w = w' := by
  rcases (show room < 1 ∨ (¬ room < 1 ∧ 64 < room) by omega) with h | ⟨h0, h⟩
  · go_enter Try.func9, Try.ntmps9
    go_wp2_with fail
    go_ret2
    exact ⟨rfl, rfl⟩
  · go_enter Try.func9, Try.ntmps9
    go_wp2_with fail
    go_ret2
    exact ⟨rfl, rfl⟩
end Go.Proofs.Ytkmabfdnekphnaa
