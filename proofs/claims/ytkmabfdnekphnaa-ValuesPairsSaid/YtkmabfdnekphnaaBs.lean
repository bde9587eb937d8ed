/- Bytes as a text. -/
import Derived.Test.YtkmabfdnekphnaaN1
import Derived.Laws.BytesArg
namespace Go.Proofs.Ytkmabfdnekphnaa
set_option linter.unusedSimpArgs false
set_option linter.unusedVariables false
set_option maxRecDepth 100000
open Go.RowKit

/-- bytes as a text -/
def btx (xs : List Nat) : ByteArray := strOfNums (xs.map fun (x : Nat) => (x : Int))
theorem conv_btx {w : World} {A : Option Addr} {n c : Nat} {xs : List Nat} (h : Rd .u8 w A n c xs) : (convert 23 9 (.slice A n c)).run Try.prog w = .ok (.string (btx xs)) w := by
  have hl := h.len
  rcases A with _ | ad
  · obtain rfl : n = 0 := by
      rcases Nat.eq_zero_or_pos n with h0 | h0
      · exact h0
      · obtain ⟨ad, h1, _⟩ := h.form h0; cases h1
    obtain rfl : xs = [] := List.eq_nil_of_length_eq_zero hl
    exact run_convert_bytes_nil w _ _ Try.underlying23 Try.underlying5 0 c _ Try.underlying9
  · rw [run_convert_bytes_string w _ _ _ _ n c Try.underlying23 Try.underlying5 Try.underlying9]
    have hc : (loadCells ad n).run Try.prog w = .ok ((xs.map fun (x : Nat) => (x : Int)).map (Value.int .u8)).toArray w := by
      have h1 := run_loadCells_list (P := Try.prog) w ad (vs .u8 xs) (fun j v hj => h.cells rfl j v hj)
      rw [vs_length, hl] at h1
      rw [h1]
      simp [vs]
    rw [run_bytesToString w ad n c _ hc, foldl_push_bytes]
    simp [btx, strOfNums, ByteArray.empty, ByteArray.emptyWithCapacity]
    rfl
theorem btx_inj {xs ys : List Nat} (hx : ∀ x ∈ xs, x < 256) (hy : ∀ y ∈ ys, y < 256) (h : btx xs = btx ys) : xs = ys := by
  have h1 := congrArg (fun b : ByteArray => b.data.toList) h
  simp only [btx, strOfNums_data, List.map_map] at h1
  have key : ∀ (xs ys : List Nat), (∀ x ∈ xs, x < 256) → (∀ y ∈ ys, y < 256) → xs.map ((fun n : Int => UInt8.ofNat n.toNat) ∘ fun (x : Nat) => (x : Int)) = ys.map ((fun n : Int => UInt8.ofNat n.toNat) ∘ fun (x : Nat) => (x : Int)) → xs = ys := by
    intro xs
    induction xs with
    | nil => intro ys _ _ h; cases ys with
      | nil => rfl
      | cons y ys => simp at h
    | cons x xs ih => intro ys hx hy h; cases ys with
      | nil => simp at h
      | cons y ys =>
        simp only [List.map_cons, List.cons.injEq, Function.comp, Int.toNat_natCast] at h
        have hx0 := hx x (by simp)
        have hy0 := hy y (by simp)
        have e := congrArg UInt8.toNat h.1
        simp only [UInt8.toNat_ofNat'] at e
        rw [Nat.mod_eq_of_lt (by simpa using hx0), Nat.mod_eq_of_lt (by simpa using hy0)] at e
        rw [e, ih ys (fun z hz => hx z (by simp [hz])) (fun z hz => hy z (by simp [hz])) h.2]
  exact key xs ys hx hy h1
end Go.Proofs.Ytkmabfdnekphnaa
