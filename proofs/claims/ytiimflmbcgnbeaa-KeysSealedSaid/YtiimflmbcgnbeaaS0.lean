/- Digests: what is reckoned, in plain numbers, no program in sight. -/
import Derived.Test.YtiimflmbcgnbeaaMm
import Derived.Laws.BitsAllLaws
namespace Go.Proofs.Ytiimflmbcgnbeaa
set_option linter.unusedSimpArgs false
set_option linter.unusedVariables false
open Go.RowKit

/-- words of 32 bits -/
def B32 (xs : List Nat) : Prop := ∀ x ∈ xs, x < 4294967296
/-- bytes -/
def B8 (xs : List Nat) : Prop := ∀ x ∈ xs, x < 256
/-- a turn of a word to the right -/
def rot (x n : Nat) : Nat := (x / 2 ^ n) ||| (x * 2 ^ (32 - n) % 4294967296)
def sg0 (x : Nat) : Nat := rot x 7 ^^^ rot x 18 ^^^ x / 8
def sg1 (x : Nat) : Nat := rot x 17 ^^^ rot x 19 ^^^ x / 1024
def bg1 (x : Nat) : Nat := rot x 6 ^^^ rot x 11 ^^^ rot x 25
def bg0 (x : Nat) : Nat := rot x 2 ^^^ rot x 13 ^^^ rot x 22
def chN (e f g : Nat) : Nat := (e &&& f) ^^^ ((4294967295 - e) &&& g)
def mjN (a b c : Nat) : Nat := (a &&& b) ^^^ (a &&& c) ^^^ (b &&& c)
/-- the next word of a block's schedule -/
def nextW (ws : List Nat) (t : Nat) : Nat := (gd ws (t - 16) + sg0 (gd ws (t - 15)) + gd ws (t - 7) + sg1 (gd ws (t - 2))) % 4294967296
def sched : Nat → List Nat → List Nat
  | 0, ws => ws
  | n + 1, ws => (fun us => us ++ [nextW us us.length]) (sched n ws)
def kN : List Nat := [1116352408, 1899447441, 3049323471, 3921009573, 961987163, 1508970993, 2453635748, 2870763221, 3624381080, 310598401, 607225278, 1426881987, 1925078388, 2162078206, 2614888103, 3248222580, 3835390401, 4022224774, 264347078, 604807628, 770255983, 1249150122, 1555081692, 1996064986, 2554220882, 2821834349, 2952996808, 3210313671, 3336571891, 3584528711, 113926993, 338241895, 666307205, 773529912, 1294757372, 1396182291, 1695183700, 1986661051, 2177026350, 2456956037, 2730485921, 2820302411, 3259730800, 3345764771, 3516065817, 3600352804, 4094571909, 275423344, 430227734, 506948616, 659060556, 883997877, 958139571, 1322822218, 1537002063, 1747873779, 1955562222, 2024104815, 2227730452, 2361852424, 2428436474, 2756734187, 3204031479, 3329325298]
def hN : List Nat := [1779033703, 3144134277, 1013904242, 2773480762, 1359893119, 2600822924, 528734635, 1541459225]
/-- a round -/
def rndX (v : List Nat) (k w : Nat) : Nat := (gd v 7 + bg1 (gd v 4) + chN (gd v 4) (gd v 5) (gd v 6) + k + w) % 4294967296
def rndY (v : List Nat) : Nat := (bg0 (gd v 0) + mjN (gd v 0) (gd v 1) (gd v 2)) % 4294967296
def rnd (v : List Nat) (k w : Nat) : List Nat := [(rndX v k w + rndY v) % 4294967296, gd v 0, gd v 1, gd v 2, (gd v 3 + rndX v k w) % 4294967296, gd v 4, gd v 5, gd v 6]
def rounds (ws h : List Nat) : Nat → List Nat
  | 0 => h
  | t + 1 => rnd (rounds ws h t) (gd kN t) (gd ws t)
/-- the i-th word of a block's bytes -/
def be4 (p : List Nat) (i : Nat) : Nat := gd p (4 * i) * 16777216 + gd p (4 * i + 1) * 65536 + gd p (4 * i + 2) * 256 + gd p (4 * i + 3)
def w16 (p : List Nat) : List Nat := (List.range 16).map (be4 p)
/-- the words, with those of the rounds, from place 0 to i -/
def addW (h v : List Nat) (i : Nat) : List Nat := (List.range i).map fun j => (gd h j + gd v j) % 4294967296
def blockN (h p : List Nat) : List Nat := addW h (rounds (sched 48 (w16 p)) h 64) 8

theorem B32.nil : B32 [] := fun x hx => by cases hx
theorem B32.cons {x : Nat} {xs : List Nat} (h : x < 4294967296) (hs : B32 xs) : B32 (x :: xs) := fun y hy => by
  rcases List.mem_cons.1 hy with rfl | hy
  · exact h
  · exact hs y hy
theorem B32.gd {xs : List Nat} (h : B32 xs) (j : Nat) : gd xs j < 4294967296 := by
  rcases Nat.lt_or_ge j xs.length with hj | hj
  · exact h _ (List.mem_of_getElem? (gd_get hj))
  · rw [gd_ge hj]; omega
theorem B32.append {xs ys : List Nat} (h : B32 xs) (h' : B32 ys) : B32 (xs ++ ys) := fun x hx => by
  rcases List.mem_append.1 hx with hx | hx
  · exact h x hx
  · exact h' x hx
theorem B32.set {xs : List Nat} (h : B32 xs) {j y : Nat} (hy : y < 4294967296) : B32 (xs.set j y) := fun x hx => by
  rcases List.mem_or_eq_of_mem_set hx with hx | rfl
  · exact h x hx
  · exact hy
theorem B8.nil : B8 [] := fun x hx => by cases hx
theorem B8.cons {x : Nat} {xs : List Nat} (h : x < 256) (hs : B8 xs) : B8 (x :: xs) := fun y hy => by
  rcases List.mem_cons.1 hy with rfl | hy
  · exact h
  · exact hs y hy
theorem B8.gd {xs : List Nat} (h : B8 xs) (j : Nat) : gd xs j < 256 := by
  rcases Nat.lt_or_ge j xs.length with hj | hj
  · exact h _ (List.mem_of_getElem? (gd_get hj))
  · rw [gd_ge hj]; omega
theorem B8.append {xs ys : List Nat} (h : B8 xs) (h' : B8 ys) : B8 (xs ++ ys) := fun x hx => by
  rcases List.mem_append.1 hx with hx | hx
  · exact h x hx
  · exact h' x hx
theorem B8.take {xs : List Nat} (h : B8 xs) (k : Nat) : B8 (xs.take k) := fun x hx => h x (List.mem_of_mem_take hx)
theorem B8.drop {xs : List Nat} (h : B8 xs) (k : Nat) : B8 (xs.drop k) := fun x hx => h x (List.mem_of_mem_drop hx)
theorem or32 {a b : Nat} (ha : a < 4294967296) (hb : b < 4294967296) : a ||| b < 4294967296 := Nat.or_lt_two_pow (n := 32) ha hb
theorem xor32 {a b : Nat} (ha : a < 4294967296) (hb : b < 4294967296) : a ^^^ b < 4294967296 := Nat.xor_lt_two_pow (n := 32) ha hb
theorem and32 {a b : Nat} (ha : a < 4294967296) : a &&& b < 4294967296 := Nat.lt_of_le_of_lt Nat.and_le_left ha
theorem rot_lt {x : Nat} (h : x < 4294967296) (n : Nat) : rot x n < 4294967296 := or32 (Nat.lt_of_le_of_lt (Nat.div_le_self _ _) h) (Nat.mod_lt _ (by omega))
theorem sched_length (n : Nat) (ws : List Nat) : (sched n ws).length = n + ws.length := by
  induction n with
  | zero => simp [sched]
  | succ n ih => simp only [sched, List.length_append, ih, List.length_cons, List.length_nil]; omega
theorem sched_b32 {ws : List Nat} (h : B32 ws) (n : Nat) : B32 (sched n ws) := by
  induction n with
  | zero => exact h
  | succ n ih => exact ih.append (B32.cons (Nat.mod_lt _ (by omega)) B32.nil)
theorem be4_lt {p : List Nat} (h : B8 p) (i : Nat) : be4 p i < 4294967296 := by
  have a := h.gd (4 * i)
  have b := h.gd (4 * i + 1)
  have c := h.gd (4 * i + 2)
  have d := h.gd (4 * i + 3)
  unfold be4; omega
theorem w16_b32 {p : List Nat} (h : B8 p) : B32 (w16 p) := fun x hx => by
  unfold w16 at hx
  rw [List.mem_map] at hx
  obtain ⟨i, _, rfl⟩ := hx
  exact be4_lt h i
theorem w16_length (p : List Nat) : (w16 p).length = 16 := by simp [w16]
theorem rnd_b32 {v : List Nat} (h : B32 v) (k w : Nat) : B32 (rnd v k w) := by
  unfold rnd
  exact B32.cons (Nat.mod_lt _ (by omega)) (B32.cons (h.gd 0) (B32.cons (h.gd 1) (B32.cons (h.gd 2) (B32.cons (Nat.mod_lt _ (by omega)) (B32.cons (h.gd 4) (B32.cons (h.gd 5) (B32.cons (h.gd 6) B32.nil)))))))
theorem rounds_b32 {ws h : List Nat} (hb : B32 h) (t : Nat) : B32 (rounds ws h t) := by
  induction t with
  | zero => exact hb
  | succ t ih => exact rnd_b32 ih _ _
theorem rounds_length {ws h : List Nat} (hl : h.length = 8) (t : Nat) : (rounds ws h t).length = 8 := by
  cases t with
  | zero => exact hl
  | succ t => rfl
theorem addW_length (h v : List Nat) (i : Nat) : (addW h v i).length = i := by simp [addW]
theorem addW_b32 (h v : List Nat) (i : Nat) : B32 (addW h v i) := fun x hx => by
  unfold addW at hx
  rw [List.mem_map] at hx
  obtain ⟨j, _, rfl⟩ := hx
  exact Nat.mod_lt _ (by omega)
theorem addW_succ (h v : List Nat) (i : Nat) : addW h v (i + 1) = addW h v i ++ [(gd h i + gd v i) % 4294967296] := by simp [addW, List.range_succ]
theorem hN_b32 : B32 hN := by unfold B32 hN; decide
theorem kN_b32 : B32 kN := by unfold B32 kN; decide
theorem add_u32 (a b : Nat) : IntKind.u32.wrap ((a : Int) + (b : Int)) = (((a + b) % 4294967296 : Nat) : Int) := by rw [IntKind.wrap_u32]; omega
end Go.Proofs.Ytiimflmbcgnbeaa
