/- What a Hash has taken, in plain numbers. -/
import Derived.Test.YtiimflmbcgnbeaaS3
namespace Go.Proofs.Ytiimflmbcgnbeaa
set_option linter.unusedSimpArgs false
set_option linter.unusedVariables false
open Go.RowKit

def blkN (h m : List Nat) (i : Nat) : List Nat := blockN h ((m.drop (64 * i)).take 64)
def foldB (h m : List Nat) : Nat → List Nat
  | 0 => h
  | k + 1 => blkN (foldB h m k) m k
def stN (m : List Nat) : List Nat := foldB hN m (m.length / 64)
def restN (m : List Nat) : List Nat := m.drop (m.length / 64 * 64)
def be8 (n : Nat) : List Nat := [n / 72057594037927936 % 256, n / 281474976710656 % 256, n / 1099511627776 % 256, n / 4294967296 % 256, n / 16777216 % 256, n / 65536 % 256, n / 256 % 256, n % 256]
def padN (n : Nat) : List Nat := 128 :: (List.replicate (63 - (n + 8) % 64) 0 ++ be8 (8 * n))
def outN (ws : List Nat) : List Nat := ws.flatMap fun w => [w / 16777216 % 256, w / 65536 % 256, w / 256 % 256, w % 256]
/-- the digest -/
def shaN (m : List Nat) : List Nat := outN (stN (m ++ padN m.length))

theorem blockN_length (h p : List Nat) : (blockN h p).length = 8 := by unfold blockN; exact addW_length _ _ _
theorem blockN_b32 (h p : List Nat) : B32 (blockN h p) := by unfold blockN; exact addW_b32 _ _ _
theorem hN_length : hN.length = 8 := rfl
theorem foldB_length {h : List Nat} (hl : h.length = 8) (m : List Nat) (k : Nat) : (foldB h m k).length = 8 := by
  cases k with
  | zero => exact hl
  | succ k => exact blockN_length _ _
theorem foldB_b32 {h : List Nat} (hb : B32 h) (m : List Nat) (k : Nat) : B32 (foldB h m k) := by
  cases k with
  | zero => exact hb
  | succ k => exact blockN_b32 _ _
theorem stN_length (m : List Nat) : (stN m).length = 8 := foldB_length hN_length _ _
theorem stN_b32 (m : List Nat) : B32 (stN m) := foldB_b32 hN_b32 _ _
theorem foldB_add (h m : List Nat) (k j : Nat) : foldB h m (k + j) = foldB (foldB h m k) (m.drop (64 * k)) j := by
  induction j with
  | zero => rfl
  | succ j ih =>
    rw [show k + (j + 1) = k + j + 1 by omega]
    simp only [foldB, ih, blkN, List.drop_drop]
    rw [Nat.mul_add]
theorem foldB_prefix (h m b : List Nat) (k : Nat) (hk : 64 * k ≤ m.length) : foldB h (m ++ b) k = foldB h m k := by
  induction k with
  | zero => rfl
  | succ k ih =>
    simp only [foldB, blkN]
    rw [ih (by omega), List.drop_append_of_le_length (by omega), List.take_append_of_le_length (by rw [List.length_drop]; omega)]
theorem restN_length (m : List Nat) : (restN m).length = m.length - m.length / 64 * 64 := by unfold restN; rw [List.length_drop]
theorem rest_append (m b : List Nat) : (m ++ b).drop (64 * (m.length / 64)) = restN m ++ b := by
  unfold restN
  rw [Nat.mul_comm, List.drop_append_of_le_length (by omega)]
theorem blocks_append (m b : List Nat) : (m ++ b).length / 64 = m.length / 64 + (restN m ++ b).length / 64 := by
  rw [List.length_append, List.length_append, restN_length]; omega
/-- more is taken -/
theorem stN_append (m b : List Nat) : foldB (stN m) (restN m ++ b) ((restN m ++ b).length / 64) = stN (m ++ b) := by
  show _ = foldB hN (m ++ b) ((m ++ b).length / 64)
  rw [blocks_append m b, foldB_add, rest_append, foldB_prefix hN m b (m.length / 64) (by omega)]
  rfl
theorem restN_append (m b : List Nat) : restN (restN m ++ b) = restN (m ++ b) := by
  have h := rest_append m b
  have hb := blocks_append m b
  have e : restN (m ++ b) = ((m ++ b).drop (64 * (m.length / 64))).drop ((restN m ++ b).length / 64 * 64) := by
    show (m ++ b).drop ((m ++ b).length / 64 * 64) = _
    rw [List.drop_drop]; congr 1; omega
  rw [e, h]; rfl
theorem stN_nil : stN [] = hN := rfl
theorem restN_nil : restN [] = [] := rfl
theorem padN_length (n : Nat) : (padN n).length = 64 - (n + 8) % 64 + 8 := by
  unfold padN
  simp [be8]; omega
theorem padN_b8 (n : Nat) : B8 (padN n) := by
  unfold padN be8
  refine B8.cons (by omega) (B8.append (fun x hx => by rw [List.eq_of_mem_replicate hx]; omega) ?_)
  repeat (refine B8.cons (Nat.mod_lt _ (by omega)) ?_)
  exact B8.nil
theorem outN_length (ws : List Nat) : (outN ws).length = 4 * ws.length := by
  unfold outN
  induction ws with
  | nil => rfl
  | cons w ws ih => simp only [List.flatMap_cons, List.length_append, ih, List.length_cons, List.length_nil]; omega
theorem outN_b8 (ws : List Nat) : B8 (outN ws) := by
  unfold outN
  intro x hx
  obtain ⟨w, _, hx⟩ := List.mem_flatMap.1 hx
  simp only [List.mem_cons, List.not_mem_nil, or_false] at hx
  rcases hx with rfl | rfl | rfl | rfl <;> exact Nat.mod_lt _ (by omega)
theorem shaN_length (m : List Nat) : (shaN m).length = 32 := by unfold shaN; rw [outN_length, stN_length]
theorem shaN_b8 (m : List Nat) : B8 (shaN m) := outN_b8 _
end Go.Proofs.Ytiimflmbcgnbeaa
