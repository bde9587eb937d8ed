/- Where the majority lies: the ends of intervals in their order, gone through. -/
import Derived.Test.YteemglgbhdpodaaY6
namespace Go.Proofs.Yteemglgbhdpodaa
set_option linter.unusedSimpArgs false
set_option linter.unusedVariables false
set_option maxRecDepth 100000

/-- an end: where, and what is added there -/
abbrev En := Int × Int
/-- does an end come ahead of another one? -/
def ahB (a b : En) : Bool := decide (a.1 < b.1) || decide (a.1 = b.1) && decide (b.2 < a.2)
/-- a step of the walk along the ends: how many there are, whether the majority was found, where it begins, where it ends -/
def stepR (L : Int) (s : Int × Bool × Int × Int) (e : En) : Int × Bool × Int × Int :=
  if 0 < e.2 then (if L < 2 * (s.1 + 1) ∧ s.2.1 = false then (s.1 + 1, true, e.1, s.2.2.2) else (s.1 + 1, s.2.1, s.2.2.1, s.2.2.2))
  else (s.1 - 1, s.2.1, s.2.2.1, if L < 2 * s.1 then e.1 else s.2.2.2)
def runR (L : Int) (l : List En) (s : Int × Bool × Int × Int) : Int × Bool × Int × Int := l.foldl (stepR L) s
/-- an interval: low, middle, high -/
abbrev Sp := Int × Int × Int
def endsN (l : List Sp) : List En := l.flatMap fun s => [(s.1, 1), (s.2.2, -1)]
def sumS (l : List En) : Int := (l.map Prod.snd).foldr (· + ·) 0
theorem sumS_cons (e : En) (l : List En) : sumS (e :: l) = e.2 + sumS l := rfl
theorem sumS_append (a b : List En) : sumS (a ++ b) = sumS a + sumS b := by
  induction a with
  | nil => simp [sumS]
  | cons e a ih => rw [List.cons_append, sumS_cons, sumS_cons, ih]; omega
theorem sumS_perm {a b : List En} (h : a.Perm b) : sumS a = sumS b := by
  induction h with
  | nil => rfl
  | cons x _ ih => rw [sumS_cons, sumS_cons, ih]
  | swap x y l => rw [sumS_cons, sumS_cons, sumS_cons, sumS_cons]; omega
  | trans _ _ h1 h2 => rw [h1, h2]
def Unit1 (l : List En) : Prop := ∀ e ∈ l, e.2 = 1 ∨ e.2 = -1
theorem run_have {L : Int} : ∀ (l : List En) (s : Int × Bool × Int × Int), Unit1 l → (runR L l s).1 = s.1 + sumS l
  | [], s, _ => by simp [runR, sumS]
  | e :: l, s, h => by
    have h1 := run_have (L := L) l (stepR L s e) (fun x hx => h x (by simp [hx]))
    have h2 := h e (by simp)
    show (runR L l (stepR L s e)).1 = _
    rw [h1, sumS_cons]
    unfold stepR
    rcases h2 with h2 | h2
    · rw [h2, if_pos (by omega)]
      split <;> simp <;> omega
    · rw [h2, if_neg (by omega)]
      simp; omega
/-- up to a point: what was found lies there; what was not found is no majority -/
theorem run_lo {L o : Int} : ∀ (l : List En) (s : Int × Bool × Int × Int), Unit1 l → (∀ e ∈ l, e.1 ≤ o) → (s.2.1 = true → s.2.2.1 ≤ o) → (s.2.1 = false → 2 * s.1 ≤ L) →
    ((runR L l s).2.1 = true → (runR L l s).2.2.1 ≤ o) ∧ ((runR L l s).2.1 = false → 2 * (runR L l s).1 ≤ L)
  | [], s, _, _, h1, h2 => ⟨h1, h2⟩
  | e :: l, s, hu, ho, h1, h2 => by
    have he := ho e (by simp)
    refine run_lo l (stepR L s e) (fun x hx => hu x (by simp [hx])) (fun x hx => ho x (by simp [hx])) ?_ ?_
    · unfold stepR
      split
      · split
        · intro _; exact he
        · exact h1
      · exact h1
    · unfold stepR
      split
      · split
        · intro h; cases h
        · rename_i hn
          intro h
          simp only at h ⊢
          rcases Int.lt_or_le L (2 * (s.1 + 1)) with h3 | h3
          · exact absurd ⟨h3, h⟩ hn
          · exact h3
      · intro h
        have := h2 h
        simp only
        omega
/-- what was found stays -/
theorem run_found {L : Int} : ∀ (l : List En) (s : Int × Bool × Int × Int), s.2.1 = true → (runR L l s).2.1 = true ∧ (runR L l s).2.2.1 = s.2.2.1
  | [], s, h => ⟨h, rfl⟩
  | e :: l, s, h => by
    have hs : (stepR L s e).2.1 = true ∧ (stepR L s e).2.2.1 = s.2.2.1 := by
      unfold stepR
      split
      · rw [if_neg (fun h' => by rw [h] at h'; exact Bool.noConfusion h'.2)]; exact ⟨h, rfl⟩
      · exact ⟨h, rfl⟩
    have h1 := run_found (L := L) l (stepR L s e) hs.1
    exact ⟨h1.1, h1.2.trans hs.2⟩
/-- from a point on: there is a majority still, or it ended there -/
theorem run_hi {L o : Int} : ∀ (l : List En) (s : Int × Bool × Int × Int), Unit1 l → (∀ e ∈ l, o ≤ e.1) → (L < 2 * s.1 ∨ o ≤ s.2.2.2) → (L < 2 * (runR L l s).1 ∨ o ≤ (runR L l s).2.2.2)
  | [], _, _, _, h => h
  | e :: l, s, hu, ho, h => by
    have he := ho e (by simp)
    refine run_hi l (stepR L s e) (fun x hx => hu x (by simp [hx])) (fun x hx => ho x (by simp [hx])) ?_
    unfold stepR
    split
    · split
      · rcases h with h | h
        · exact .inl (by simp only; omega)
        · exact .inr h
      · rcases h with h | h
        · exact .inl (by simp only; omega)
        · exact .inr h
    · simp only
      by_cases h1 : L < 2 * s.1
      · rw [if_pos h1]; exact .inr he
      · rw [if_neg h1]
        rcases h with h | h
        · exact absurd h h1
        · exact .inr h
/-- what lies up to a point -/
def upB (o : Int) (e : En) : Bool := decide (e.1 < o) || decide (e.1 = o) && decide (0 < e.2)
theorem split_sorted {o : Int} : ∀ (l : List En), Unit1 l → l.Pairwise (fun a b => ahB b a = false) → l = l.filter (upB o) ++ l.filter (fun e => !upB o e)
  | [], _, _ => rfl
  | e :: l, hu, hp => by
    rw [List.pairwise_cons] at hp
    have ih := split_sorted (o := o) l (fun x hx => hu x (by simp [hx])) hp.2
    by_cases h : upB o e = true
    · rw [List.filter_cons_of_pos h, List.filter_cons_of_neg (by simp [h]), List.cons_append, ← ih]
    · have hn : ∀ x ∈ l, upB o x = false := fun x hx => by
        have h1 := hp.1 x hx
        have h2 := hu e (by simp)
        have h3 := hu x (by simp [hx])
        unfold ahB at h1
        unfold upB at h ⊢
        simp only [Bool.or_eq_true, Bool.and_eq_true, decide_eq_true_eq, Bool.or_eq_false_iff, Bool.and_eq_false_iff, decide_eq_false_iff_not] at h h1 ⊢
        omega
      rw [List.filter_cons_of_neg h, List.filter_cons_of_pos (by simp [h]), List.filter_eq_nil_iff.2 (fun x hx => by simp [hn x hx]), List.nil_append, List.filter_eq_self.2 (fun x hx => by simp [hn x hx])]
/-- how many intervals hold a point -/
def coverN (l : List Sp) (o : Int) : Int := (l.map fun s => if s.1 ≤ o ∧ o ≤ s.2.2 then (1 : Int) else 0).foldr (· + ·) 0
theorem sum_up (o : Int) : ∀ (l : List Sp), (∀ s ∈ l, s.1 ≤ s.2.2) → sumS ((endsN l).filter (upB o)) = coverN l o
  | [], _ => rfl
  | s :: l, h => by
    have ih := sum_up o l (fun x hx => h x (by simp [hx]))
    have hs := h s (by simp)
    have e1 : endsN (s :: l) = [(s.1, 1), (s.2.2, -1)] ++ endsN l := rfl
    have e2 : coverN (s :: l) o = (if s.1 ≤ o ∧ o ≤ s.2.2 then (1 : Int) else 0) + coverN l o := rfl
    rw [e1, List.filter_append, sumS_append, ih, e2]
    congr 1
    have u1 : upB o (s.1, 1) = decide (s.1 ≤ o) := by
      unfold upB
      by_cases h1 : s.1 < o
      · simp [h1]; omega
      · by_cases h2 : s.1 = o
        · simp [h2]
        · simp [h1, h2]; omega
    have u2 : upB o (s.2.2, -1) = decide (s.2.2 < o) := by unfold upB; simp
    by_cases c1 : s.1 ≤ o
    · by_cases c2 : s.2.2 < o
      · rw [List.filter_cons_of_pos (by rw [u1]; simpa using c1), List.filter_cons_of_pos (by rw [u2]; simpa using c2), if_neg (by omega)]; rfl
      · rw [List.filter_cons_of_pos (by rw [u1]; simpa using c1), List.filter_cons_of_neg (by rw [u2]; simpa using c2), if_pos (by omega)]; rfl
    · rw [List.filter_cons_of_neg (by rw [u1]; simpa using c1), List.filter_cons_of_neg (by rw [u2]; simp; omega), if_neg (by omega)]; rfl
theorem ends_unit (l : List Sp) : Unit1 (endsN l) := by
  intro e he
  unfold endsN at he
  simp only [List.mem_flatMap, List.mem_cons, List.not_mem_nil, or_false] at he
  obtain ⟨s, _, h | h⟩ := he <;> subst h <;> simp
theorem sum_ends : ∀ l : List Sp, sumS (endsN l) = 0
  | [] => rfl
  | s :: l => by
    have e1 : endsN (s :: l) = [(s.1, 1), (s.2.2, -1)] ++ endsN l := rfl
    rw [e1, sumS_append, sum_ends l]; rfl
/-- the majority is found, around each point that more than half of them hold -/
theorem region_pure {sp : List Sp} {o : Int} {l : List En} (hv : ∀ s ∈ sp, s.1 ≤ s.2.2) (hm : (sp.length : Int) < 2 * coverN sp o) (hp : l.Perm (endsN sp)) (hs : l.Pairwise (fun a b => ahB b a = false)) :
    (runR sp.length l (0, false, 0, 0)).2.1 = true ∧ (runR sp.length l (0, false, 0, 0)).2.2.1 ≤ o ∧ o ≤ (runR sp.length l (0, false, 0, 0)).2.2.2 := by
  have hu : Unit1 l := fun e he => ends_unit sp e (hp.subset he)
  have hsp := split_sorted (o := o) l hu hs
  obtain ⟨l1, h1⟩ : ∃ z, l.filter (upB o) = z := ⟨_, rfl⟩
  obtain ⟨l2, h2⟩ : ∃ z, l.filter (fun e => !upB o e) = z := ⟨_, rfl⟩
  have hu1 : Unit1 l1 := fun e he => hu e (by rw [← h1] at he; exact (List.mem_filter.1 he).1)
  have hu2 : Unit1 l2 := fun e he => hu e (by rw [← h2] at he; exact (List.mem_filter.1 he).1)
  have ho1 : ∀ e ∈ l1, e.1 ≤ o := fun e he => by
    rw [← h1, List.mem_filter] at he
    have := he.2
    unfold upB at this
    simp only [Bool.or_eq_true, Bool.and_eq_true, decide_eq_true_eq] at this
    omega
  have ho2 : ∀ e ∈ l2, o ≤ e.1 := fun e he => by
    rw [← h2, List.mem_filter] at he
    have := he.2
    unfold upB at this
    simp only [Bool.not_eq_true', Bool.or_eq_false_iff, decide_eq_false_iff_not] at this
    omega
  have hsum : sumS l1 = coverN sp o := by
    rw [← h1, ← sum_up o sp hv]
    exact sumS_perm (hp.filter _)
  have hall : sumS l = 0 := by rw [sumS_perm hp, sum_ends]
  rw [h1, h2] at hsp
  obtain ⟨s1, e1⟩ : ∃ s, runR sp.length l1 (0, false, 0, 0) = s := ⟨_, rfl⟩
  have hr : runR sp.length l (0, false, 0, 0) = runR sp.length l2 s1 := by
    rw [← e1, hsp]; exact List.foldl_append
  have g1 := run_have (L := sp.length) l1 (0, false, 0, 0) hu1
  have g2 := run_lo (L := sp.length) (o := o) l1 (0, false, 0, 0) hu1 ho1 (fun h => by cases h) (fun _ => by simp)
  rw [e1] at g1 g2
  simp only [Int.zero_add] at g1
  have hf : s1.2.1 = true := by
    cases h : s1.2.1 with
    | true => rfl
    | false => have := g2.2 h; omega
  have g3 := run_found (L := sp.length) l2 s1 hf
  have g4 := run_hi (L := sp.length) (o := o) l2 s1 hu2 ho2 (.inl (by omega))
  have g5 := run_have (L := sp.length) l2 s1 hu2
  have g6 : sumS l = sumS l1 + sumS l2 := by rw [hsp]; exact sumS_append _ _
  rw [hr]
  refine ⟨g3.1, by rw [g3.2]; exact g2.1 hf, ?_⟩
  rcases g4 with h | h
  · rw [g5] at h; omega
  · exact h
end Go.Proofs.Yteemglgbhdpodaa
