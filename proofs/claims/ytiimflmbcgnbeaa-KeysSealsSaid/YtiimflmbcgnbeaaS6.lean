/- A Hash takes bytes: the walk. -/
import Derived.Test.YtiimflmbcgnbeaaS5
import Derived.Shelf.RegionOpen
import Derived.Deep.RegionHeld3
namespace Go.Proofs.Ytiimflmbcgnbeaa
set_option linter.unusedSimpArgs false
set_option linter.unusedVariables false
open Go.RowKit
attribute [local go_sem] Oper.semAt_some

theorem grown_drew {w w' : World} {r : Option Nat} (h : w.grownBy w' r) : w.grownBy w'.drew r := ⟨h.os, h.tape, h.output, h.size, h.block⟩
theorem grown_allocs {w w' : World} {r : Option Nat} (h : w.grownBy w' r) (o : Obj) : w.grownBy (w'.alloc o) r := grown_trans h (grown_alloc w' r o)
/-- the cells of a Hash -/
def hcells (bg : Bool) (ws : List Nat) (A : Option Addr) (n c k : Nat) : Array Value :=
  #[.bool bg, .int .u32 (gd ws 0 : Int), .int .u32 (gd ws 1 : Int), .int .u32 (gd ws 2 : Int), .int .u32 (gd ws 3 : Int), .int .u32 (gd ws 4 : Int), .int .u32 (gd ws 5 : Int), .int .u32 (gd ws 6 : Int), .int .u32 (gd ws 7 : Int), .slice A n c, .int .i64 (k : Int)]
/-- the Hash in block g has taken m; what it keeps lies in blocks from base on -/
def HS (w : World) (g base : Nat) (m : List Nat) : Prop :=
  B8 m ∧ m.length < 140737488355328 ∧ ∃ (bg : Bool) (ws : List Nat) (A : Option Addr) (n c : Nat), Bk w g 44 (hcells bg ws A n c m.length) ∧ B32 ws ∧ ws.length = 8 ∧
    Rd .u8 w A n c (restN m) ∧ (∀ ad, A = some ad → base ≤ ad.block ∧ ad.block ≠ g ∧ ad.block < w.heap.size) ∧ (bg = true → ws = stN m) ∧ (bg = false → m = [])

/-- the world behind a Write: but for the Hash's own block all lies as it lay -/
def Wrote (g : Nat) (w w' : World) : Prop := w.grownBy w' (some g)
theorem first_new (w : World) : Calls Try.prog 55 #[] w fun e w' => e = .returned (.agg (va .u32 hN)) ∧ w' = w.alloc (.cells (va .u32 hN) 42) := by
  go_enter Try.func55, Try.ntmps55
  go_wp2
  refine bodyPost_ret (v := .agg (va .u32 hN)) (by simp [results, Try.results55, go_sem]; rfl) rfl ⟨rfl, ?_⟩
  rfl

theorem va_hN : va .u32 hN = #[.int .u32 1779033703, .int .u32 3144134277, .int .u32 1013904242, .int .u32 2773480762, .int .u32 1359893119, .int .u32 2600822924, .int .u32 528734635, .int .u32 1541459225] := rfl
theorem hcells_n (bg : Bool) (ws : List Nat) (A : Option Addr) (n c k k' l : Nat) : (hcells bg ws A n c k).setIfInBounds 10 (.int .i64 ((k' : Int) + (l : Int))) = hcells bg ws A n c (k' + l) := by
  simp [hcells]
theorem hcells_left (bg : Bool) (ws : List Nat) (A A' : Option Addr) (n c n' c' k : Nat) : (hcells bg ws A n c k).setIfInBounds 9 (.slice A' n' c') = hcells bg ws A' n' c' k := by
  simp [hcells]
theorem u8_info : (Try.prog.info? 5).map (fun i => (i.zero, i.size, i.bytes)) = some (some (.int .u8 0), 1, 1) := by kernel_rfl
theorem Rd.full {k : IntKind} {w : World} {A : Option Addr} {n c : Nat} {xs : List Nat} (h : Rd k w A n c xs) : Rd k w A n n xs := ⟨h.1, Nat.le_refl _, h.2.2.1, h.2.2.2⟩
theorem grown_of_below {w w' : World} (h : Below w.heap.size w w') (r : Option Nat) : w.grownBy w' r := ⟨h.os, h.tape, h.output, h.size, fun k hk _ => h.block k hk⟩
theorem grown_later {w W W' : World} {r row : Option Nat} (h : w.grownBy W r) (hg : W.grownBy W' row) (hr : ∀ k, row = some k → w.heap.size ≤ k) : w.grownBy W' r :=
  ⟨hg.os.trans h.os, hg.tape.trans h.tape, hg.output.trans h.output, Nat.le_trans h.size hg.size, fun k hk hne => (hg.block k (Nat.lt_of_lt_of_le hk h.size) (fun e => by have := hr k e.symm; omega)).trans (h.block k hk hne)⟩
theorem Bk.later {W W' : World} {g : Nat} {t : TypeId} {cs : Array Value} {row : Option Nat} (h : Bk W g t cs) (hg : W.grownBy W' row) (hr : ∀ k, row = some k → g < k) : Bk W' g t cs :=
  (hg.block g h.lt (fun e => by have := hr g e.symm; omega)).trans h
theorem Rd.later {k : IntKind} {w w' : World} {A : Option Addr} {n c : Nat} {xs : List Nat} {row : Option Nat} (h : Rd k w A n c xs) (hg : w.grownBy w' row) (hne : ∀ ad, A = some ad → ∀ r, row = some r → ad.block < r) : Rd k w' A n c xs := by
  obtain ⟨h1, h2, h3, h4⟩ := h
  refine ⟨h1, h2, h3, fun hn => ?_⟩
  obtain ⟨ad, rfl, hlt, hc⟩ := h4 hn
  refine ⟨ad, rfl, Nat.lt_of_lt_of_le hlt hg.size, fun j x hx => ?_⟩
  have hb : w'.heap[ad.block]? = w.heap[ad.block]? := hg.block _ hlt (fun e => by have := hne ad rfl _ e.symm; omega)
  rw [World.cell?_of_block (w := w) (by rw [Go.ChangeShapes.block_add]; exact hb)]
  exact hc j x hx
/-- between two blocks of a Write -/
def Between (w : World) (g W0 : Nat) (ws0 all : List Nat) (A : Option Addr) (n c k : Nat) (A2 : Option Addr) (L c2 : Nat) (pre : List Nat) (W : World) : Prop :=
  (Bk W g 44 (hcells true (foldB ws0 all pre.length) A n c k) ∧ Bk W w.heap.size 28 #[.pointer (some ⟨g, 0, none⟩)]) ∧ w.grownBy W (some g) ∧ Rd .u8 W A2 L c2 all ∧ W0 < W.heap.size
theorem Between.later {w W W' : World} {g W0 : Nat} {ws0 all : List Nat} {A : Option Addr} {n c k : Nat} {A2 : Option Addr} {L c2 : Nat} {pre : List Nat} {row : Option Nat} (h : Between w g W0 ws0 all A n c k A2 L c2 pre W) (hg : W.grownBy W' row)
    (hA : ∀ ad, A2 = some ad → ad.block < W0) (hgl : g < W0) (hwl : w.heap.size < W0) (hr : ∀ k, row = some k → W0 ≤ k) : Between w g W0 ws0 all A n c k A2 L c2 pre W' :=
  ⟨⟨h.1.1.later hg (fun k e => by have := hr k e; omega), h.1.2.later hg (fun k e => by have := hr k e; omega)⟩, grown_later h.2.1 hg (fun k e => by have := hr k e; omega), h.2.2.1.later hg (fun ad e r e' => by have := hr r e'; have := hA ad e; omega), Nat.lt_of_lt_of_le h.2.2.2 hg.size⟩
theorem hcells_words (bg : Bool) (ws vs2 : List Nat) (A : Option Addr) (n c k : Nat) : ((((((((hcells bg ws A n c k).setIfInBounds 1 (.int .u32 (gd vs2 0 : Int))).setIfInBounds 2 (.int .u32 (gd vs2 1 : Int))).setIfInBounds 3 (.int .u32 (gd vs2 2 : Int))).setIfInBounds 4 (.int .u32 (gd vs2 3 : Int))).setIfInBounds 5 (.int .u32 (gd vs2 4 : Int))).setIfInBounds 6 (.int .u32 (gd vs2 5 : Int))).setIfInBounds 7 (.int .u32 (gd vs2 6 : Int))).setIfInBounds 8 (.int .u32 (gd vs2 7 : Int)) = hcells bg vs2 A n c k := by
  simp [hcells]
theorem words_cells {w1 : World} {g : Nat} {bg : Bool} {ws : List Nat} {A : Option Addr} {n c k : Nat} (hk : Bk w1 g 44 (hcells bg ws A n c k)) (vs2 : List Nat) :
    Bk (((((((((w1).setCell ⟨g, 1, none⟩ (.int .u32 (gd vs2 0 : Int))).setCell ⟨g, 2, none⟩ (.int .u32 (gd vs2 1 : Int))).setCell ⟨g, 3, none⟩ (.int .u32 (gd vs2 2 : Int))).setCell ⟨g, 4, none⟩ (.int .u32 (gd vs2 3 : Int))).setCell ⟨g, 5, none⟩ (.int .u32 (gd vs2 4 : Int))).setCell ⟨g, 6, none⟩ (.int .u32 (gd vs2 5 : Int))).setCell ⟨g, 7, none⟩ (.int .u32 (gd vs2 6 : Int))).setCell ⟨g, 8, none⟩ (.int .u32 (gd vs2 7 : Int))) g 44 (hcells bg vs2 A n c k) := by
  rw [← hcells_words bg ws vs2 A n c k]
  exact ((((((((hk).set 1 (.int .u32 (gd vs2 0 : Int))).set 2 (.int .u32 (gd vs2 1 : Int))).set 3 (.int .u32 (gd vs2 2 : Int))).set 4 (.int .u32 (gd vs2 3 : Int))).set 5 (.int .u32 (gd vs2 4 : Int))).set 6 (.int .u32 (gd vs2 5 : Int))).set 7 (.int .u32 (gd vs2 6 : Int))).set 8 (.int .u32 (gd vs2 7 : Int))
theorem grown_drew_below {W w5 : World} (h : Below W.drew.heap.size W.drew w5) (r : Option Nat) : W.grownBy w5 r := ⟨h.os, h.tape, h.output, h.size, fun k hk _ => h.block k hk⟩
theorem Between.next {w W W' : World} {g W0 : Nat} {ws0 all ws2 : List Nat} {A : Option Addr} {n c k : Nat} {A2 : Option Addr} {L c2 : Nat} {pre : List Nat} {x : Nat} (h : Between w g W0 ws0 all A n c k A2 L c2 pre W) (hg : W.grownBy W' (some g))
    (hA : ∀ ad, A2 = some ad → ad.block ≠ g) (hx : (pre ++ [x]).length = x + 1) (hgl : g < w.heap.size) (hwl : w.heap.size < W0) {a : Act} (hk : Bk W' g 44 (hcells true ws2 A n c k)) (he : foldB ws0 all (x + 1) = ws2) : goesOn W0 (Between w g W0 ws0 all A n c k A2 L c2) (pre ++ [x]) W .normal a W' := by
  refine ⟨KeepsOthers.of_grownBy hg (fun j o e ho => ?_), ?_, ⟨?_, ?_⟩, grown_trans h.2.1 hg, h.2.2.1.grown hg hA, Nat.lt_of_lt_of_le h.2.2.2 hg.size⟩
  · cases e
    have := h.1.1
    unfold Bk at this
    rw [this] at ho
    cases ho; rfl
  · exact hg.block _ h.2.2.2 (fun e => by cases e; omega)
  · rw [hx, he]; exact hk
  · exact (hg.block _ h.1.2.lt (fun e => by cases e; omega)).trans h.1.2
theorem body_end {w W w5 : World} {g W0 : Nat} {ws0 all ws1 ws2 : List Nat} {A : Option Addr} {n c k : Nat} {A2 : Option Addr} {L c2 : Nat} {pre : List Nat} {x : Nat} (h : Between w g W0 ws0 all A n c k A2 L c2 pre W)
    (hb5 : Below W.drew.heap.size W.drew w5) (hk5 : Bk w5 g 44 (hcells true ws1 A n c k))
    (hA : ∀ ad, A2 = some ad → ad.block ≠ g) (hx : (pre ++ [x]).length = x + 1) (hgl : g < w.heap.size) (hwl : w.heap.size < W0) (he : foldB ws0 all (x + 1) = ws2) {a : Act} :
    Exit.inBlock 1 (goesOn W0 (Between w g W0 ws0 all A n c k A2 L c2) (pre ++ [x]) W) .normal a (((((((((w5).setCell ⟨g, 1, none⟩ (.int .u32 (gd ws2 0 : Int))).setCell ⟨g, 2, none⟩ (.int .u32 (gd ws2 1 : Int))).setCell ⟨g, 3, none⟩ (.int .u32 (gd ws2 2 : Int))).setCell ⟨g, 4, none⟩ (.int .u32 (gd ws2 3 : Int))).setCell ⟨g, 5, none⟩ (.int .u32 (gd ws2 4 : Int))).setCell ⟨g, 6, none⟩ (.int .u32 (gd ws2 5 : Int))).setCell ⟨g, 7, none⟩ (.int .u32 (gd ws2 6 : Int))).setCell ⟨g, 8, none⟩ (.int .u32 (gd ws2 7 : Int))) := by
  show goesOn W0 (Between w g W0 ws0 all A n c k A2 L c2) (pre ++ [x]) W .normal a _
  refine h.next ?_ hA hx hgl hwl (words_cells hk5 ws2) he
  repeat (first | with_reducible refine grown_set ?_ _ _ | exact grown_drew_below hb5 _)
theorem Rd.kept {k : IntKind} {w w' : World} {A : Option Addr} {n c : Nat} {xs : List Nat} {row : Option Nat} (h : Rd k w A n c xs) (hg : w.grownBy w' row) (hne : ∀ ad, A = some ad → ∀ r, row = some r → ad.block ≠ r) : Rd k w' A n c xs := by
  obtain ⟨h1, h2, h3, h4⟩ := h
  refine ⟨h1, h2, h3, fun hn => ?_⟩
  obtain ⟨ad, rfl, hlt, hc⟩ := h4 hn
  refine ⟨ad, rfl, Nat.lt_of_lt_of_le hlt hg.size, fun j x hx => ?_⟩
  have hb : w'.heap[ad.block]? = w.heap[ad.block]? := hg.block _ hlt (fun e => hne ad rfl _ e.symm rfl)
  rw [World.cell?_of_block (w := w) (by rw [Go.ChangeShapes.block_add]; exact hb)]
  exact hc j x hx
theorem write_end {w W w5 : World} {g D : Nat} {mb : List Nat} {A A' : Option Addr} {n c k N c' : Nat} {e : TypeId} {o : Obj} (HGW : w.grownBy W (some g)) (hb5 : Below W.heap.size W.drew w5)
    (hk5 : Bk w5 g 44 (hcells true (stN mb) A n c k)) (hkl : k = mb.length) (ho5 : Own .u8 e w5 W.heap.size A' N c' (restN mb)) (hgl : g < w.heap.size) (hWs : w.heap.size < W.heap.size)
    (hD1 : w.heap.size ≤ D) (hD2 : D < W.heap.size) (mb8 : B8 mb) (hlen : mb.length < 140737488355328) :
    Wrote g w ((w5.setCell ⟨g, 9, none⟩ (.slice A' N c')).putObj D o) ∧ HS ((w5.setCell ⟨g, 9, none⟩ (.slice A' N c')).putObj D o) g w.heap.size mb := by
  have h1 : w.grownBy w5 (some g) := grown_later HGW (grown_drew_below hb5 none) (fun k e => by cases e)
  have h2 : w.grownBy (w5.setCell ⟨g, 9, none⟩ (.slice A' N c')) (some g) := grown_set h1 9 _
  have hp := grownBy_putObj' (w5.setCell ⟨g, 9, none⟩ (.slice A' N c')) D o
  have hA : ∀ ad, A' = some ad → W.heap.size ≤ ad.block ∧ ad.block < w5.heap.size := fun ad e => by
    rcases ho5.ways with ⟨h, _⟩ | ⟨g', h, h3, h4, _⟩
    · rw [h] at e; cases e
    · rw [h] at e; cases e; exact ⟨h3, h4⟩
  have hs6 : (w5.setCell ⟨g, 9, none⟩ (.slice A' N c')).heap.size = w5.heap.size := by simp [World.setCell]
  refine ⟨grown_later h2 hp (fun k e => by cases e; exact hD1), mb8, hlen, true, stN mb, A', N, c', ?_, stN_b32 _, stN_length _, ?_, ?_, fun _ => rfl, fun h => by cases h⟩
  · have h3 := hk5.set 9 (.slice A' N c')
    rw [hcells_left, hkl] at h3
    exact h3.later hp (fun k e => by cases e; omega)
  · refine (ho5.rd.far (p := ⟨g, 9, none⟩) (fun ad e => ?_) _).kept hp (fun ad e r e' => ?_)
    · have := hA ad e
      show ad.block ≠ g
      omega
    · have := hA ad e
      cases e'
      omega
  · intro ad e
    have := hA ad e
    have h4 := hp.size
    rw [hs6] at h4
    omega
theorem hcells_begin (ws : List Nat) (A : Option Addr) (n c k : Nat) : (((((((((hcells false ws A n c k).setIfInBounds 0 (.bool true)).setIfInBounds 1 (.int .u32 1779033703)).setIfInBounds 2 (.int .u32 3144134277)).setIfInBounds 3 (.int .u32 1013904242)).setIfInBounds 4 (.int .u32 2773480762)).setIfInBounds 5 (.int .u32 1359893119)).setIfInBounds 6 (.int .u32 2600822924)).setIfInBounds 7 (.int .u32 528734635)).setIfInBounds 8 (.int .u32 1541459225) = hcells true hN A n c k := by
  simp [hcells, hN, gd]
theorem begin_cells {w1 : World} {g : Nat} {ws : List Nat} {A : Option Addr} {n c k : Nat} (hk : Bk w1 g 44 (hcells false ws A n c k)) (o : Obj) :
    Bk (((((((((((w1.setCell ⟨g, 0, none⟩ (.bool true)).setCell ⟨g, 1, none⟩ (.int .u32 1779033703)).setCell ⟨g, 2, none⟩ (.int .u32 3144134277)).setCell ⟨g, 3, none⟩ (.int .u32 1013904242)).setCell ⟨g, 4, none⟩ (.int .u32 2773480762)).setCell ⟨g, 5, none⟩ (.int .u32 1359893119)).setCell ⟨g, 6, none⟩ (.int .u32 2600822924)).setCell ⟨g, 7, none⟩ (.int .u32 528734635)).setCell ⟨g, 8, none⟩ (.int .u32 1541459225)).alloc o).drew) g 44 (hcells true hN A n c k) := by
  rw [← hcells_begin ws A n c k]
  exact ((((((((((hk.set 0 (.bool true)).set 1 (.int .u32 1779033703)).set 2 (.int .u32 3144134277)).set 3 (.int .u32 1013904242)).set 4 (.int .u32 2773480762)).set 5 (.int .u32 1359893119)).set 6 (.int .u32 2600822924)).set 7 (.int .u32 528734635)).set 8 (.int .u32 1541459225)).alloc o).drew

set_option maxRecDepth 100000 in
set_option maxHeartbeats 20000000 in
theorem write_any (w : World) {g base : Nat} {m b : List Nat} {B : Option Addr} {d : Nat} (h : HS w g base m) (hb : Rd .u8 w B b.length d b) (hg : ∀ ad, B = some ad → ad.block ≠ g) (b8 : B8 b) (hlen : (m ++ b).length < 140737488355328) :
    Calls Try.prog 23 #[.pointer (some ⟨g, 0, none⟩), .slice B b.length d] w fun e w' => e = .returned (.int .i64 0) ∧ Wrote g w w' ∧ HS w' g w.heap.size (m ++ b) := by
  obtain ⟨m8, hml, bg, ws, A, n, c, hk, hwb, hwl, hr, hA, hT, hF⟩ := h
  refine (callsIn_wide (n := 7)).1 (callsIn_of_wp_marks Try.func23 rfl trivial ?_ rfl)
  simp only [Try.ntmps23, List.size_toArray, List.length_cons, List.length_nil, Nat.reduceAdd, Nat.reduceSub, Array.replicate_succ, Array.replicate_zero, List.push_toArray, List.append_toArray, List.nil_append, List.cons_append]
  refine wpIn_wide.2 ?_
  have HR := Lib.hid hr
  have HB := Lib.hid hb
  have HA := Lib.hid hA
  have HT := Lib.hid hT
  have HG := Lib.hid hg
  have hgl := hk.lt
  clear hr hb hA hT hg
  go_upto_region 3 with (fail)
  have HK1 := Lib.hid (hk.alloc (.cells #[.pointer (some ⟨g, 0, none⟩)] 28))
  have HX1 := Lib.hid (Bk.new w 28 #[.pointer (some ⟨g, 0, none⟩)])
  have HW1 := Lib.hid (World.grownBy_alloc w (.cells #[.pointer (some ⟨g, 0, none⟩)] 28) (some g))
  have hs1 : (w.alloc (.cells #[.pointer (some ⟨g, 0, none⟩)] 28)).heap.size = w.heap.size + 1 := by simp
  generalize w.alloc (.cells #[.pointer (some ⟨g, 0, none⟩)] 28) = w1 at HK1 HX1 HW1 hs1 ⊢
  have cx : w1.cell? ⟨w.heap.size, 0, none⟩ = some (.pointer (some ⟨g, 0, none⟩)) := HX1.out.cell 0
  have c0 : w1.cell? ⟨g, 0, none⟩ = some (.bool bg) := HK1.out.cell 0
  clear hk
  go_upto_if 13 with (fail)
  go_cut [] from 14 (fun wx => Bk wx g 44 (hcells true (stN m) A n c m.length) ∧ Bk wx w.heap.size 28 #[.pointer (some ⟨g, 0, none⟩)] ∧ w.grownBy wx (some g) ∧ w.heap.size < wx.heap.size)
  case first =>
    cases bg with
    | true =>
      obtain rfl : ws = stN m := HT.out rfl
      go_wp2
      go_meet
      case rel =>
        exact ⟨HK1.out, HX1.out, HW1.out, by omega⟩
    | false =>
      have c1 : w1.cell? ⟨g, 1, none⟩ = some (.int .u32 (gd ws 0 : Int)) := HK1.out.cell 1
      have c2 : w1.cell? ⟨g, 2, none⟩ = some (.int .u32 (gd ws 1 : Int)) := HK1.out.cell 2
      have c3 : w1.cell? ⟨g, 3, none⟩ = some (.int .u32 (gd ws 2 : Int)) := HK1.out.cell 3
      have c4 : w1.cell? ⟨g, 4, none⟩ = some (.int .u32 (gd ws 3 : Int)) := HK1.out.cell 4
      have c5 : w1.cell? ⟨g, 5, none⟩ = some (.int .u32 (gd ws 4 : Int)) := HK1.out.cell 5
      have c6 : w1.cell? ⟨g, 6, none⟩ = some (.int .u32 (gd ws 5 : Int)) := HK1.out.cell 6
      have c7 : w1.cell? ⟨g, 7, none⟩ = some (.int .u32 (gd ws 6 : Int)) := HK1.out.cell 7
      have c8 : w1.cell? ⟨g, 8, none⟩ = some (.int .u32 (gd ws 7 : Int)) := HK1.out.cell 8
      have f0 := HK1.out.frozen 0
      have f1 := HK1.out.frozen 1
      have f2 := HK1.out.frozen 2
      have f3 := HK1.out.frozen 3
      have f4 := HK1.out.frozen 4
      have f5 := HK1.out.frozen 5
      have f6 := HK1.out.frozen 6
      have f7 := HK1.out.frozen 7
      have f8 := HK1.out.frozen 8
      have HFN := first_new
      rw [va_hN] at HFN
      go_wp2_with fail
      refine wp_only ?_
      go_region_with (go_at_call 55; refine (HFN _).mono ?_; rintro e w' ⟨rfl, rfl⟩)
      all_goals (simp only [onlyN])
      all_goals
        obtain rfl : m = [] := hF trivial
        go_wp2
        go_meet
        case rel =>
          rw [stN_nil]
          refine ⟨by with_reducible exact begin_cells HK1.out _, ?_, ?_, ?_⟩
          · repeat (first | with_reducible exact HX1.out | with_reducible refine Bk.drew ?_ | with_reducible refine Bk.alloc ?_ _ | with_reducible refine Bk.far ?_ (by show w.heap.size ≠ g; omega) _)
          · repeat (first | with_reducible exact HW1.out | with_reducible refine grown_drew ?_ | with_reducible refine grown_allocs ?_ _ | with_reducible refine grown_set ?_ _ _)
          · simp [World.setCell]; omega
  case rest =>
    obtain ⟨hk, hx, hgr, hsz⟩ := hcut
    clear HX1 HW1 HK1 c0 cx HT
    have cx : wc.cell? ⟨w.heap.size, 0, none⟩ = some (.pointer (some ⟨g, 0, none⟩)) := hx.cell 0
    have c10 : wc.cell? ⟨g, 10, none⟩ = some (.int .i64 (m.length : Int)) := hk.cell 10
    have f10 := hk.frozen 10
    obtain ⟨ml, hml'⟩ : ∃ z, m.length = z := ⟨_, rfl⟩
    obtain ⟨bl, hbl'⟩ : ∃ z, b.length = z := ⟨_, rfl⟩
    have hsum : ml + bl < 140737488355328 := by rw [List.length_append] at hlen; omega
    have kn : IntKind.i64.wrap ((ml : Int) + (bl : Int)) = (ml : Int) + (bl : Int) := IntWalk.i64_in _ (by omega)
    rw [hml'] at hk c10
    rw [hbl']
    have HK := Lib.hid hk
    have HX := Lib.hid hx
    have HW := Lib.hid hgr
    clear hk hx hgr
    go_upto_region 6 with (fail)
    have hk2 := HK.out.set 10 (.int .i64 ((ml : Int) + (bl : Int)))
    rw [hcells_n] at hk2
    have hx2 := HX.out.far (p := ⟨g, 10, none⟩) (by show w.heap.size ≠ g; omega) (.int .i64 ((ml : Int) + (bl : Int)))
    have hw2 := grown_set HW.out 10 (.int .i64 ((ml : Int) + (bl : Int)))
    have hs2 : (wc.setCell ⟨g, 10, none⟩ (.int .i64 ((ml : Int) + (bl : Int)))).heap.size = wc.heap.size := by simp [World.setCell]
    generalize wc.setCell ⟨g, 10, none⟩ (.int .i64 ((ml : Int) + (bl : Int))) = w2 at hk2 hx2 hw2 hs2 ⊢
    clear HK HX HW c10 f10 cx
    have cx : w2.cell? ⟨w.heap.size, 0, none⟩ = some (.pointer (some ⟨g, 0, none⟩)) := hx2.cell 0
    have c9 : w2.cell? ⟨g, 9, none⟩ = some (.slice A n c) := hk2.cell 9
    have hnc : (n : Int) ≤ (c : Int) := by have := HR.out.cap; omega
    have hn0 : (0 : Int) ≤ (n : Int) := by omega
    have HK2 := Lib.hid hk2
    have HX2 := Lib.hid hx2
    have HW2 := Lib.hid hw2
    clear hk2 hx2 hw2
    refine wp_region_still_tail 16 (by kernel_rfl) (by kernel_rfl) ?_
    simp only [List.take_succ_cons, List.take_zero, List.drop_succ_cons, List.drop_zero, World.drew_eq]
    repeat still_step
    refine wpStill_nil ?_
    have hgr2 : w.grownBy w2.drew (some g) := grown_drew HW2.out
    have RA := (HR.out.grown hgr2 (fun ad h => (HA.out ad h).2.1)).full
    have RB := HB.out.grown hgr2 HG.out
    rw [hbl'] at RB
    have hnl : n ≤ ml := by have := HR.out.len; rw [restN_length, hml'] at this; omega
    obtain ⟨i0, hi0, hz0, hz1, hz2⟩ := info_parts u8_info
    refine wpList_append_full _ rfl (.tmp 44) (.tmp 45) 22 rfl .u8 5 i0 (.int .u8 0) 1 Try.underlying22 hi0 hz0 hz1 hz2 rfl A n (restN m) rfl RA B bl d b rfl RB (by unfold maxLen; omega) (by omega) ?_
    intro A2 c2 w3 r3 hb3 hway hnew
    obtain ⟨L, hL⟩ : ∃ L, n + bl = L := ⟨_, rfl⟩
    rw [hL] at r3 hnew ⊢
    (refine wpList_plain rfl (fun K hK => ?_); go_simp; refine hK _ _ ?_; clear hK K)
    refine wpList_nil ?_
    have HK3 := Lib.hid (HK2.out.drew.below hb3 (by show g < w2.heap.size; omega))
    have HX3 := Lib.hid (HX2.out.drew.below hb3 (by show w.heap.size < w2.heap.size; omega))
    have HW3 := Lib.hid (grown_trans hgr2 (grown_of_below hb3 (some g)))
    have HR3 := Lib.hid r3
    have hs3 : w.heap.size < w3.heap.size := by have := hb3.size; have e : w2.drew.heap.size = w2.heap.size := rfl; omega
    have HA3 := Lib.hid (show ∀ ad, A2 = some ad → ad.block ≠ g ∧ ad.block ≠ w.heap.size ∧ ad.block < w3.heap.size from fun ad h => by
      rcases hway with ⟨h1, _⟩ | ⟨gg, h1, h2, h3⟩
      · rw [h1] at h
        have := HA.out ad h
        have := hb3.size
        have e : w2.drew.heap.size = w2.heap.size := rfl
        omega
      · have h0 := h1 ▸ h
        have e : w2.drew.heap.size = w2.heap.size := rfl
        have e2 : gg < w3.heap.size := hnew gg h1 (by omega)
        simp only [Option.some.injEq] at h0
        subst h0
        show gg ≠ _ ∧ gg ≠ _ ∧ gg < _
        omega)
    clear RA RB HK2 HX2 HW2 hgr2 cx c9 hb3 r3 hway
    go_wp2_with (go_at_call 56; refine (blocks_maker _ _ _ _).mono ?_; rintro e w' ⟨rfl, rfl⟩)
    have hgl3 : g < w3.heap.size := by omega
    have HB4 := Lib.hid (Bk.new w3 22 #[.slice A2 L c2])
    have HI4 := Lib.hid (show Between w g w3.heap.size (stN m) (restN m ++ b) A n c (ml + bl) A2 L c2 [] (w3.alloc (.cells #[.slice A2 L c2] 22)) from ⟨⟨HK3.out.alloc _, HX3.out.alloc _⟩, grown_allocs HW3.out _, HR3.out.alloc _, by simp⟩)
    have hs4 : (w3.alloc (.cells #[.slice A2 L c2] 22)).heap.size = w3.heap.size + 1 := by simp
    generalize w3.alloc (.cells #[.slice A2 L c2] 22) = w4 at HB4 HI4 hs4 ⊢
    clear HK3 HX3
    refine (wpIn_wide (n := 7)).1 ?_
    have hsome : ∀ i, 64 * (i + 1) ≤ L → ∃ ad, A2 = some ad := fun i hi => by
      obtain ⟨ad, h1, _⟩ := HR3.out.form (by omega)
      exact ⟨ad, h1⟩
    apply range_box (F := Fence.wide) rfl (by omega) (gf := 65) (lb := #[.pointer (some ⟨w3.heap.size, 0, none⟩)]) rfl trivial (enters_of Try.func65 (by kernel_rfl) rfl)
      (encs := fun i => #[blkV A2 i]) (S := fun xs => xs = List.range (L / 64)) (Ok := fun pre x => pre = List.range x ∧ x < L / 64) (Bn := w3.heap.size) (by omega)
      (fun l J W hW hJ hY h0 => blocks_gives 6 (by omega) w3.heap.size A2 L c2 hsome HR3.out.cap l J hJ hY W (HB4.out.below hW (by omega)) h0) (fun _ => rfl)
      (Between w g w3.heap.size (stN m) (restN m ++ b) A n c (ml + bl) A2 L c2)
      (fun s W W' row hs hg hr => hs.later hg (fun ad h => (HA3.out ad h).2.2) hgl3 hs3 (fun k e => by have := (hr k e).1; omega))
      (fun s W W' row hs hg hr => hs.later hg (fun ad h => (HA3.out ad h).2.2) hgl3 hs3 (fun k e => by have := hr k e; omega))
      HI4.out
    case hassign =>
      intro l x W K hK
      gi_wp2
      exact hK
    case hbody =>
      rintro l pre x W hI ⟨hpre, hx⟩
      have HI := Lib.hid hI
      obtain ⟨⟨hkW, hxW⟩, hgW, hrW, hsW⟩ := hI
      have hpl : pre.length = x := by rw [hpre, List.length_range]
      rw [hpl] at hkW
      obtain ⟨ad, rfl⟩ := hsome x (by omega)
      obtain ⟨ak, hak⟩ : ∃ z, ad.add (64 * x) = z := ⟨_, rfl⟩
      have hrB : Rd .u8 W (some ak) 64 64 (((restN m ++ b).drop (64 * x)).take 64) := by
        have h1 := hrW.drop (m := 64 * x) (by omega)
        rw [if_neg (by have := hrW.cap; omega), Option.map_some, hak] at h1
        exact (h1.take (m := 64) (by omega)).full
      obtain ⟨ws1, hws1⟩ : ∃ z, foldB (stN m) (restN m ++ b) x = z := ⟨_, rfl⟩
      have l1 : ws1.length = 8 := by rw [← hws1]; exact foldB_length (stN_length m) _ _
      have b1 : B32 ws1 := by rw [← hws1]; exact foldB_b32 (stN_b32 m) _ _
      obtain ⟨ws2, hws2⟩ : ∃ z, blockN ws1 (((restN m ++ b).drop (64 * x)).take 64) = z := ⟨_, rfl⟩
      have l2 : ws2.length = 8 := by rw [← hws2]; exact blockN_length _ _
      have HN := Lib.hid (show foldB (stN m) (restN m ++ b) (x + 1) = ws2 by simp only [foldB, blkN]; rw [hws1, hws2])
      have HBLK : Calls Try.prog 57 #[.agg #[.int .u32 (gd ws1 0 : Int), .int .u32 (gd ws1 1 : Int), .int .u32 (gd ws1 2 : Int), .int .u32 (gd ws1 3 : Int), .int .u32 (gd ws1 4 : Int), .int .u32 (gd ws1 5 : Int), .int .u32 (gd ws1 6 : Int), .int .u32 (gd ws1 7 : Int)], .slice (some ak) 64 64] W.drew fun e w' => e = .returned (.agg #[.int .u32 (gd ws2 0 : Int), .int .u32 (gd ws2 1 : Int), .int .u32 (gd ws2 2 : Int), .int .u32 (gd ws2 3 : Int), .int .u32 (gd ws2 4 : Int), .int .u32 (gd ws2 5 : Int), .int .u32 (gd ws2 6 : Int), .int .u32 (gd ws2 7 : Int)]) ∧ Below W.drew.heap.size W.drew w' := by
        rw [← va_eight l1, ← va_eight l2, ← hws2]
        exact block_any W.drew b1 l1 hrB.drew ((((m8.drop _).append b8).drop _).take _)
      rw [hws1] at hkW
      have HKW := Lib.hid hkW
      have cx : W.cell? ⟨w.heap.size, 0, none⟩ = some (.pointer (some ⟨g, 0, none⟩)) := hxW.cell 0
      have c1 : W.cell? ⟨g, 1, none⟩ = some (.int .u32 (gd ws1 0 : Int)) := hkW.cell 1
      have c2 : W.cell? ⟨g, 2, none⟩ = some (.int .u32 (gd ws1 1 : Int)) := hkW.cell 2
      have c3 : W.cell? ⟨g, 3, none⟩ = some (.int .u32 (gd ws1 2 : Int)) := hkW.cell 3
      have c4 : W.cell? ⟨g, 4, none⟩ = some (.int .u32 (gd ws1 3 : Int)) := hkW.cell 4
      have c5 : W.cell? ⟨g, 5, none⟩ = some (.int .u32 (gd ws1 4 : Int)) := hkW.cell 5
      have c6 : W.cell? ⟨g, 6, none⟩ = some (.int .u32 (gd ws1 5 : Int)) := hkW.cell 6
      have c7 : W.cell? ⟨g, 7, none⟩ = some (.int .u32 (gd ws1 6 : Int)) := hkW.cell 7
      have c8 : W.cell? ⟨g, 8, none⟩ = some (.int .u32 (gd ws1 7 : Int)) := hkW.cell 8
      have HXW := Lib.hid hxW
      simp only [blkV, Option.map_some, hak]
      clear hkW hxW hgW hrW hrB hws1 hws2 b1
      have hm : Try.prog.follows .mixedOrders = true := by kernel_rfl
      have hAA : ∀ a', some ad = some a' → a'.block ≠ g := fun a' e => (HA3.out a' e).1
      have hxx : (pre ++ [x]).length = x + 1 := by rw [List.length_append, hpl]; rfl
      gi_wp2
      gi_region_with_o (refine ⟨trivial, ?_⟩; gi_at_call 57; refine (CallsIn.inRound l (callsIn_wide.2 HBLK)).mono ?_; rintro e w5 ⟨rfl, hb5⟩; have hk5 := HKW.out.drew.below hb5 HKW.out.lt; have cx5 : w5.cell? ⟨w.heap.size, 0, none⟩ = some (.pointer (some ⟨g, 0, none⟩)) := (HXW.out.drew.below hb5 HXW.out.lt).cell 0; have d1 : w5.cell? ⟨g, 1, none⟩ = some (.int .u32 (gd ws1 0 : Int)) := hk5.cell 1; have d2 : w5.cell? ⟨g, 2, none⟩ = some (.int .u32 (gd ws1 1 : Int)) := hk5.cell 2; have d3 : w5.cell? ⟨g, 3, none⟩ = some (.int .u32 (gd ws1 2 : Int)) := hk5.cell 3; have d4 : w5.cell? ⟨g, 4, none⟩ = some (.int .u32 (gd ws1 3 : Int)) := hk5.cell 4; have d5 : w5.cell? ⟨g, 5, none⟩ = some (.int .u32 (gd ws1 4 : Int)) := hk5.cell 5; have d6 : w5.cell? ⟨g, 6, none⟩ = some (.int .u32 (gd ws1 5 : Int)) := hk5.cell 6; have d7 : w5.cell? ⟨g, 7, none⟩ = some (.int .u32 (gd ws1 6 : Int)) := hk5.cell 7; have d8 : w5.cell? ⟨g, 8, none⟩ = some (.int .u32 (gd ws1 7 : Int)) := hk5.cell 8; have e1 := hk5.frozen 1; have e2 := hk5.frozen 2; have e3 := hk5.frozen 3; have e4 := hk5.frozen 4; have e5 := hk5.frozen 5; have e6 := hk5.frozen 6; have e7 := hk5.frozen 7; have e8 := hk5.frozen 8)
      all_goals (with_reducible exact body_end HI.out hb5 hk5 hAA hxx hgl hs3 HN.out)
    case hdone =>
      rintro D xs W hD rfl hI hdef
      obtain ⟨⟨hkW, hxW⟩, hgW, hrW, hsW⟩ := hI
      have hlen2 : (restN m ++ b).length = L := HR3.out.len
      rw [List.length_range, ← hlen2, stN_append] at hkW
      have cx : W.cell? ⟨w.heap.size, 0, none⟩ = some (.pointer (some ⟨g, 0, none⟩)) := hxW.cell 0
      have c9 : W.cell? ⟨g, 9, none⟩ = some (.slice A n c) := hkW.cell 9
      have f9 := hkW.frozen 9
      have HKW := Lib.hid hkW
      have HXW := Lib.hid hxW
      have HGW := Lib.hid hgW
      have HRW := Lib.hid hrW
      clear hkW hxW hgW hrW HB4 HI4 HW3 HR3 hsome
      obtain ⟨q, hq⟩ : ∃ q, L / 64 = q := ⟨_, rfl⟩
      obtain ⟨p, hp⟩ : ∃ p, q * 64 = p := ⟨_, rfl⟩
      have hLb : L < 140737488355328 := by omega
      have d1 : (L : Int).tdiv 64 = (q : Int) := by rw [Int.tdiv_eq_ediv_of_nonneg (by omega)]; omega
      have d2 : IntKind.i64.wrap (q : Int) = (q : Int) := IntWalk.i64_in _ (by omega)
      have d3 : (q : Int) * 64 = (p : Int) := by omega
      have d4 : IntKind.i64.wrap (p : Int) = (p : Int) := IntWalk.i64_in _ (by omega)
      have hpL : p ≤ L := by omega
      have d5 : (p : Int) ≤ (L : Int) := by omega
      have d6 : (0 : Int) ≤ (p : Int) := by omega
      have hrest : (restN m ++ b).drop p = restN (m ++ b) := by
        rw [← restN_append]
        show _ = (restN m ++ b).drop ((restN m ++ b).length / 64 * 64)
        rw [hlen2, hq, hp]
      have hR5 := (HRW.out.drop hpL).drew
      rw [hrest] at hR5
      have HR5 := Lib.hid hR5
      have hWs : w.heap.size < W.heap.size := by omega
      clear hR5 hq hp hrest hsW
      dsimp only
      go_upto_region 10 with (fail)
      refine wp_only ?_
      rcases A2 with _ | ad
      · simp only [Option.map_none, ite_self] at HR5
        have S0 : W.drew.cell? ⟨w.heap.size, 0, none⟩ = some (.pointer (some ⟨g, 0, none⟩)) := cx
        go_region_held3 (fun w' => w'.cell? ⟨w.heap.size, 0, none⟩ = some (.pointer (some ⟨g, 0, none⟩)))
          (first | with_reducible assumption | exact (cell_set_ne (by show w.heap.size ≠ g; omega) _).trans S5)
          ((refine step_append_rd _ (by rfl) _ _ _ (by rfl) .u8 W.heap.size 5 i0 (.int .u8 0) 1 Try.underlying22 hi0 hz0 hz1 hz2 rfl none 0 0 [] (by rfl) (Own.nil _ _ _ _) none (L - p) (c2 - p) (restN (m ++ b)) (by rfl) HR5.out (by unfold maxLen; omega) (by omega) (Nat.le_refl _) ?_; intro A' c' w5 ho5 hb5 hz5 hn5; have hk5 := HKW.out.drew.below hb5 HKW.out.lt; have S5 : w5.cell? ⟨w.heap.size, 0, none⟩ = some (.pointer (some ⟨g, 0, none⟩)) := (HXW.out.drew.below hb5 HXW.out.lt).cell 0; have d9 : w5.cell? ⟨g, 9, none⟩ = some (.slice A n c) := hk5.cell 9; have e9 := hk5.frozen 9))
        simp only [onlyN]
        have hDW : D < W.heap.size := (Array.getElem?_eq_some_iff.1 hdef).1
        have hdef5 : (w5.setCell ⟨g, 9, none⟩ (.slice A' (L - p) c')).heap[D]? = some (.deferred (some [])) :=
          (Below.heap_setCell w5 ⟨g, 9, none⟩ _ D (by show D ≠ g; omega)).trans ((hb5.block D hDW).trans hdef)
        have HE := Lib.hid (write_end (D := D) (o := .deferred none) HGW.out hb5 hk5 (by rw [List.length_append, hml', hbl']) (by simpa using ho5) hgl hWs (by omega) hDW (m8.append b8) hlen)
        go_wp2
        all_goals
          refine ⟨by simp, .inl ⟨_, _, rfl, run_takeDeferred hdef5, ?_⟩⟩
          exact ⟨_, results_tmp rfl _ _ _, rfl, HE.out⟩
      · simp only [Option.map_some] at HR5
        have S0 : W.drew.cell? ⟨w.heap.size, 0, none⟩ = some (.pointer (some ⟨g, 0, none⟩)) := cx
        go_region_held3 (fun w' => w'.cell? ⟨w.heap.size, 0, none⟩ = some (.pointer (some ⟨g, 0, none⟩)))
          (first | with_reducible assumption | exact (cell_set_ne (by show w.heap.size ≠ g; omega) _).trans S5)
          ((refine step_append_rd _ (by rfl) _ _ _ (by rfl) .u8 W.heap.size 5 i0 (.int .u8 0) 1 Try.underlying22 hi0 hz0 hz1 hz2 rfl none 0 0 [] (by rfl) (Own.nil _ _ _ _) (if c2 = p then some ad else some (ad.add p)) (L - p) (c2 - p) (restN (m ++ b)) (by rfl) HR5.out (by unfold maxLen; omega) (by omega) (Nat.le_refl _) ?_; intro A' c' w5 ho5 hb5 hz5 hn5; have hk5 := HKW.out.drew.below hb5 HKW.out.lt; have S5 : w5.cell? ⟨w.heap.size, 0, none⟩ = some (.pointer (some ⟨g, 0, none⟩)) := (HXW.out.drew.below hb5 HXW.out.lt).cell 0; have d9 : w5.cell? ⟨g, 9, none⟩ = some (.slice A n c) := hk5.cell 9; have e9 := hk5.frozen 9))
        simp only [onlyN]
        have hDW : D < W.heap.size := (Array.getElem?_eq_some_iff.1 hdef).1
        have hdef5 : (w5.setCell ⟨g, 9, none⟩ (.slice A' (L - p) c')).heap[D]? = some (.deferred (some [])) :=
          (Below.heap_setCell w5 ⟨g, 9, none⟩ _ D (by show D ≠ g; omega)).trans ((hb5.block D hDW).trans hdef)
        have HE := Lib.hid (write_end (D := D) (o := .deferred none) HGW.out hb5 hk5 (by rw [List.length_append, hml', hbl']) (by simpa using ho5) hgl hWs (by omega) hDW (m8.append b8) hlen)
        go_wp2
        all_goals
          refine ⟨by simp, .inl ⟨_, _, rfl, run_takeDeferred hdef5, ?_⟩⟩
          exact ⟨_, results_tmp rfl _ _ _, rfl, HE.out⟩
end Go.Proofs.Ytiimflmbcgnbeaa
