/- An insertion sort, from the front; taking the least one again and again is the same. -/
import Derived.Test.YtbiajjdjbnnggaaGs
namespace Go.Proofs.Ytbiajjdjbnnggaa
set_option linter.unusedSimpArgs false
set_option linter.unusedVariables false
set_option maxRecDepth 100000

def insR (now : Int) (x : Smp) : List Smp → List Smp
  | [] => [x]
  | y :: S => if distN x now < distN y now then x :: y :: S else y :: insR now x S
def srt (now : Int) (N : List Smp) : List Smp := N.foldl (fun S x => insR now x S) []
theorem insR_snoc_lt {now : Int} {x y : Smp} (h : distN x now < distN y now) : ∀ S, insR now x (S ++ [y]) = insR now x S ++ [y]
  | [] => by simp [insR, h]
  | z :: S => by
    by_cases hz : distN x now < distN z now
    · simp [insR, hz]
    · simp [insR, hz, insR_snoc_lt h S]
theorem insR_last {now : Int} {x : Smp} : ∀ S : List Smp, (∀ z ∈ S, ¬ distN x now < distN z now) → insR now x S = S ++ [x]
  | [], _ => rfl
  | z :: S, h => by
    unfold insR
    rw [if_neg (h z List.mem_cons_self), insR_last S (fun y hy => h y (List.mem_cons_of_mem _ hy))]; rfl
def Srt (now : Int) (S : List Smp) : Prop := S.Pairwise fun a b => distN a now ≤ distN b now
theorem insR_mem {now : Int} {x : Smp} : ∀ (S : List Smp) (y : Smp), y ∈ insR now x S → y = x ∨ y ∈ S
  | [], y, h => by simpa [insR] using h
  | z :: S, y, h => by
    unfold insR at h
    split at h
    · simpa using h
    · rcases List.mem_cons.1 h with h1 | h1
      · exact .inr (h1 ▸ List.mem_cons_self)
      · exact (insR_mem S y h1).imp id (List.mem_cons_of_mem _)
theorem insR_srt {now : Int} {x : Smp} : ∀ S : List Smp, Srt now S → Srt now (insR now x S)
  | [], _ => List.pairwise_singleton _ _
  | z :: S, h => by
    obtain ⟨h1, h2⟩ := List.pairwise_cons.1 h
    unfold insR
    split
    · rename_i hlt
      refine List.pairwise_cons.2 ⟨fun y hy => ?_, h⟩
      rcases List.mem_cons.1 hy with rfl | hy
      · omega
      · have := h1 y hy; omega
    · rename_i hlt
      refine List.pairwise_cons.2 ⟨fun y hy => ?_, insR_srt S h2⟩
      rcases insR_mem S y hy with rfl | hy
      · omega
      · exact h1 y hy
theorem foldl_srt {now : Int} : ∀ (N S : List Smp), Srt now S → Srt now (N.foldl (fun S x => insR now x S) S)
  | [], _, h => h
  | x :: N, S, h => foldl_srt N _ (insR_srt S h)
theorem insR_len {now : Int} {x : Smp} : ∀ S : List Smp, (insR now x S).length = S.length + 1
  | [] => rfl
  | z :: S => by unfold insR; split <;> simp [insR_len S]
theorem foldl_len {now : Int} : ∀ (N S : List Smp), (N.foldl (fun S x => insR now x S) S).length = S.length + N.length
  | [], S => rfl
  | x :: N, S => by rw [List.foldl_cons, foldl_len N, insR_len, List.length_cons]; omega
theorem rg_mid {S : List Smp} {x : Smp} {r : List Smp} : rg (S ++ x :: r) S.length = x := by
  unfold rg; rw [List.getD_eq_getElem?_getD, List.getElem?_append_right (Nat.le_refl _)]; simp
theorem swp_mid {S : List Smp} {y x : Smp} {r : List Smp} : swp (S ++ y :: x :: r) (S.length + 1) = S ++ x :: y :: r := by
  have e1 : rg (S ++ y :: x :: r) S.length = y := rg_mid
  have e2 : rg (S ++ y :: x :: r) (S.length + 1) = x := by
    have := rg_mid (S := S ++ [y]) (x := x) (r := r)
    simpa using this
  unfold swp
  rw [show S.length + 1 - 1 = S.length by omega, e1, e2]
  simp [List.set_append]
theorem bub_ins (now : Int) : ∀ (S : List Smp) (x : Smp) (r : List Smp), Srt now S → bub now S.length (S ++ x :: r) = insR now x S ++ r := by
  intro S
  induction h : S.length generalizing S with
  | zero =>
    intro x r _
    obtain rfl := List.eq_nil_of_length_eq_zero h
    rfl
  | succ n ih =>
    intro x r hs
    obtain ⟨S', y, rfl⟩ : ∃ S' y, S = S' ++ [y] := ⟨S.dropLast, S.getLast (by intro e; simp [e] at h), (List.dropLast_concat_getLast _).symm⟩
    have hl : S'.length = n := by simpa using h
    obtain ⟨hs1, _, hs3⟩ := List.pairwise_append.1 hs
    rw [List.append_assoc, List.singleton_append]
    unfold bub
    have e1 : rg (S' ++ y :: x :: r) n = y := by rw [← hl]; exact rg_mid
    have e2 : rg (S' ++ y :: x :: r) (n + 1) = x := by
      rw [← hl]
      have := rg_mid (S := S' ++ [y]) (x := x) (r := r)
      simpa using this
    rw [e1, e2]
    split
    · rename_i hlt
      rw [← hl, swp_mid, hl, ih S' hl x (y :: r) hs1, insR_snoc_lt hlt, List.append_assoc]; rfl
    · rename_i hlt
      rw [insR_last (S' ++ [y]) (fun z hz => by
        rcases List.mem_append.1 hz with hz | hz
        · have := hs3 z hz y (by simp); omega
        · simp at hz; subst hz; exact hlt)]
      simp
theorem isn_ins (now : Int) (N : List Smp) : ∀ k, k < N.length → isn now N k = srt now (N.take (k + 1)) ++ N.drop (k + 1)
  | 0, h => by
    match N, h with
    | x :: N, _ => simp [isn, srt, insR]
  | k + 1, h => by
    have ih := isn_ins now N k (by omega)
    show bub now (k + 1) (isn now N k) = _
    rw [ih, List.drop_eq_getElem_cons h]
    have hl : (srt now (N.take (k + 1))).length = k + 1 := by unfold srt; rw [foldl_len, List.length_take]; simp; omega
    have := bub_ins now (srt now (N.take (k + 1))) (N[k + 1]) (N.drop (k + 1 + 1)) (foldl_srt _ _ List.Pairwise.nil)
    rw [hl] at this
    rw [this]
    congr 1
    rw [List.take_succ_eq_append_getElem h]
    unfold srt
    rw [List.foldl_append]; rfl
theorem row_srt (R : List Smp) (n : Nat) (now : Int) : rowN R n now = srt now (newest R n) := by
  unfold rowN
  rcases Nat.eq_zero_or_pos n with h | h
  · subst h
    have : newest R 0 = [] := rfl
    rw [this]; rfl
  · have hl := newest_len R n
    rw [isn_ins now _ _ (by omega), List.take_of_length_le (by omega), List.drop_of_length_le (by omega), List.append_nil]
theorem insR_head {now : Int} {m : Smp} : ∀ S : List Smp, (∀ z ∈ S, distN m now < distN z now) → insR now m S = m :: S
  | [], _ => rfl
  | z :: S, h => by unfold insR; rw [if_pos (h z List.mem_cons_self)]
theorem foldl_head {now : Int} {m : Smp} : ∀ (Q S : List Smp), (∀ z ∈ Q, distN m now ≤ distN z now) → Q.foldl (fun S x => insR now x S) (m :: S) = m :: Q.foldl (fun S x => insR now x S) S
  | [], _, _ => rfl
  | z :: Q, S, h => by
    have hz := h z List.mem_cons_self
    have e : insR now z (m :: S) = m :: insR now z S := by
      show (if distN z now < distN m now then _ else _) = _
      rw [if_neg (by omega)]
    rw [List.foldl_cons, e, foldl_head Q _ (fun y hy => h y (List.mem_cons_of_mem _ hy))]; rfl
theorem foldl_memS {now : Int} : ∀ (P S : List Smp) (z : Smp), z ∈ P.foldl (fun S x => insR now x S) S → z ∈ P ∨ z ∈ S
  | [], S, z, h => .inr h
  | x :: P, S, z, h => by
    rcases foldl_memS P _ z h with h1 | h1
    · exact .inl (List.mem_cons_of_mem _ h1)
    · rcases insR_mem S z h1 with h2 | h2
      · exact .inl (h2 ▸ List.mem_cons_self)
      · exact .inr h2
/-- the first least one comes first -/
theorem srt_least {now : Int} {m : Smp} {P Q : List Smp} (hP : ∀ z ∈ P, distN m now < distN z now) (hQ : ∀ z ∈ Q, distN m now ≤ distN z now) : srt now (P ++ m :: Q) = m :: srt now (P ++ Q) := by
  unfold srt
  rw [List.foldl_append, List.foldl_cons, List.foldl_append, insR_head _ (fun z hz => by
    rcases foldl_memS P [] z hz with h | h
    · exact hP z h
    · cases h), foldl_head Q _ hQ]
end Go.Proofs.Ytbiajjdjbnnggaa
