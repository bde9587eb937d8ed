/- A region that draws its order: its first n operations are told, whatever their order; the others come last, in the order of the text. -/
import Derived.Test.YteemglgbhdpodaaTd
import Derived.StillTail
namespace Go.Proofs.Yteemglgbhdpodaa
set_option linter.unusedSimpArgs false
set_option linter.unusedVariables false
set_option maxRecDepth 100000
open Go.RowKit

def headArr (n m : Nat) : Array Bool := Array.ofFn (n := m) fun i => decide (i.val < n)
theorem headArr_of {n m : Nat} {l : Array Bool} (hs : l.size = m) (h1 : ∀ i, i < n → i < m → l.getD i false = true) (h2 : ∀ i, n ≤ i → i < m → l.getD i true = false) : l = headArr n m := by
  apply Array.ext
  · simp [headArr, hs]
  · intro i hi hj
    have him : i < m := by simpa [hs] using hi
    simp only [headArr, Array.getElem_ofFn]
    by_cases hin : i < n
    · have := h1 i hin him
      simp only [Array.getD, hi, dif_pos] at this
      simpa [hin] using this
    · have := h2 i (by omega) him
      simp only [Array.getD, hi, dif_pos] at this
      simpa [hin] using this
section
variable {P : Program} {ops : List Oper} {w0 : World} {a0 : Act} {Q : Exit → Act → World → Prop}
theorem told_head (n : Nat) (GG : Nat → GFact) (hback : backB ops = true) (hnd : (dsts (ops.take n)).Nodup) (hs : Region.sinkB .any ops.toArray n = true) (hc : Region.chainB .any ops.toArray n = true) (hn : n < ops.length)
    (hseq : Region.seqB .any ops.toArray (ops.length - n) n (headArr n ops.length) = true)
    (hG : ∀ j o, j < n → ops[j]? = some o → Stays (GG j) ∧ ∀ y w, Below w0.heap.size w0 w → depsOf GG y w o.after.toList → toldAt P ops.toArray o (putAll (ops.take n) 0 y a0) w (GG j))
    (hQ : ∀ y w, Below w0.heap.size w0 w → (∀ i, i < n → GG i (y i) w) → wpList P ops.toArray Q (ops.drop n) (putAll (ops.take n) 0 y a0) w) :
    ∀ (fuel : Nat) (listed : Array Bool) (y : Nat → Value) (w : World), HeadInv .any ops.toArray n listed → listed.toList.countP (! ·) = fuel → Below w0.heap.size w0 w → (∀ i, i < n → listed.getD i false = true → GG i (y i) w) →
      wpAny P .any ops.toArray Q fuel listed (putAll (ops.take n) 0 y a0) w := by
  intro fuel
  induction fuel with
  | zero =>
    intro listed y w inv hcnt _ _
    exfalso
    have h1 := inv.tail n (Nat.le_refl _) (by simpa using hn)
    have hlt : n < listed.size := by rw [inv.size]; simpa using hn
    have : 0 < listed.toList.countP (! ·) := List.countP_pos_iff.2 ⟨listed[n], by simp, by simpa [Array.getD, hlt] using h1⟩
    omega
  | succ fuel ih =>
    intro listed y w inv hcnt hb hg
    have hsz : listed.size = ops.length := by simpa using inv.size
    by_cases hall : ∀ i, i < n → listed.getD i false = true
    · have hl : listed = headArr n ops.length := headArr_of hsz (fun i hi _ => hall i hi) (fun i h1 h2 => inv.tail i h1 (by simpa using h2))
      have hdl : (ops.drop n).length = fuel + 1 := by
        rw [← hcnt, hl, List.length_drop]
        have : (headArr n ops.length).toList.countP (! ·) = ops.length - n := by
          have e : (headArr n ops.length).toList = (List.replicate n true) ++ List.replicate (ops.length - n) false := by
            apply List.ext_getElem
            · simp [headArr]; omega
            · intro i h1 h2
              simp only [headArr, Array.toList_ofFn, List.getElem_ofFn]
              by_cases hin : i < n
              · rw [List.getElem_append_left (by simpa using hin)]; simp [hin]
              · rw [List.getElem_append_right (by simpa using hin)]; simp [hin]
          rw [e, List.countP_append, List.countP_replicate, List.countP_replicate]
          simp
        omega
      have := wpAny_of_seq (md := .any) (Q' := Q) (ops.drop n) n listed (putAll (ops.take n) 0 y a0) w (fun j => by simp [List.getElem?_drop]) (by rw [List.length_drop, hl]; exact hseq) (hQ y w hb fun i hi => hg i hi (hall i hi))
      rwa [hdl] at this
    · -- some of the first is not done yet
      obtain ⟨i0, hi0, hl0⟩ : ∃ i, i < n ∧ listed.getD i false = false := by
        apply Classical.byContradiction
        intro hne
        exact hall fun i hi => by
          cases hv : listed.getD i false with
          | true => rfl
          | false => exact absurd ⟨i, hi, hv⟩ hne
      have hun : listed.getD i0 true = false := getD_in (by rw [hsz]; omega) hl0
      have hwait := tail_waits hs hc (by simpa using hn) inv (n - i0) i0 rfl hi0 hun
      have hne : Region.ready .any ops.toArray listed ≠ [] := by
        intro hr
        have key : ∀ m, m ≤ ops.length → ∀ j, j < m → listed.getD j false = true := by
          intro m
          induction m with
          | zero => intro _ j hj; omega
          | succ m ih2 =>
            intro hm j hj
            rcases Nat.lt_or_ge j m with h1 | h1
            · exact ih2 (by omega) j h1
            · obtain rfl : j = m := by omega
              cases hv : listed.getD j false with
              | true => rfl
              | false =>
                have ho : ops[j]? = some ops[j] := List.getElem?_eq_getElem (by omega)
                have hbk := hback
                unfold backB at hbk
                rw [List.all_eq_true] at hbk
                have hbj := hbk j (by simp; omega)
                rw [ho] at hbj
                simp only [Option.map_some, Option.getD_some, List.all_eq_true] at hbj
                have : j ∈ Region.ready .any ops.toArray listed := mem_ready.2 ⟨getD_in (by rw [hsz]; omega) hv, ops[j], by simp [ho], fun e he hbe => by
                  have h2 := hbj e (by simpa using he)
                  rw [hbe] at h2
                  simp only [Bool.not_true, Bool.false_or, decide_eq_true_eq] at h2
                  exact ih2 (by omega) _ h2⟩
                rw [hr] at this
                cases this
        have := key ops.length (Nat.le_refl _) i0 (by omega)
        rw [hl0] at this
        cases this
      refine ⟨fun h => absurd h hne, fun i hi => ?_⟩
      have hin : i < n := by
        rcases Nat.lt_or_ge i n with h | h
        · exact h
        · exact absurd hi (hwait i h)
      obtain ⟨hl, o, ho, hed⟩ := mem_ready.1 hi
      have ho' : ops[i]? = some o := by simpa using ho
      have hi' : i < listed.size := by rw [hsz]; omega
      have hli : listed.toList[i]'(by simpa using hi') = false := by simpa [Array.getD, hi'] using hl
      have hcnt2 : (listed.setIfInBounds i true).toList.countP (! ·) = fuel := by
        rw [Array.toList_setIfInBounds, List.countP_set (by simpa using hi')]
        simp only [hli, Bool.not_false, if_true, Bool.not_true, Bool.false_eq_true, if_false, Nat.add_zero]
        omega
      have hlt : ∀ e ∈ o.after.toList, Region.binds .any e = true → e.on < n := by
        intro e he hbe
        have hbk := hback
        unfold backB at hbk
        rw [List.all_eq_true] at hbk
        have hbj := hbk i (by simp; omega)
        rw [ho'] at hbj
        simp only [Option.map_some, Option.getD_some, List.all_eq_true] at hbj
        have h2 := hbj e he
        rw [hbe] at h2
        simp only [Bool.not_true, Bool.false_or, decide_eq_true_eq] at h2
        omega
      have hstep := hG i o hin ho'
      have ht := hstep.2 y w hb (depsOf_all fun e he hbe => hg _ (hlt e (by simpa using he) hbe) (hed e (by simpa using he) hbe))
      have hot : (ops.take n)[i]? = some o := by rw [List.getElem?_take, if_pos hin]; exact ho'
      have hnext : ∀ v w', Below w.heap.size w w' → GG i v w' → wpAny P .any ops.toArray Q fuel (listed.setIfInBounds i true) ((putAll (ops.take n) 0 y a0).put o.dst v) w' := by
        intro v w' hbw hgv
        have e : (putAll (ops.take n) 0 y a0).put o.dst v = putAll (ops.take n) 0 (updV y i v) a0 := by
          cases hd : o.dst with
          | none => show putAll (ops.take n) 0 y a0 = _; have := putAll_none (ops.take n) 0 i y a0 o v hot hd; simpa using this
          | some d => have := putAll_upd (ops.take n) 0 i y a0 o v hnd hot (by rw [hd]; simp); rw [hd] at this; simpa using this
        rw [e]
        refine ih _ _ _ (inv.set hi hin) hcnt2 (hb.trans (hbw.mono hb.size)) fun j hjn hj => ?_
        by_cases hji : j = i
        · subst hji
          have : updV y j v j = v := by unfold updV; rw [if_pos rfl]
          rw [this]; exact hgv
        · have e2 : updV y i v j = y j := by unfold updV; rw [if_neg hji]
          rw [e2]
          have hj2 : listed.getD j false = true := by
            rw [getD_set_ne false (fun h => hji h.symm)] at hj
            exact hj
          exact (hG j ops[j] hjn (List.getElem?_eq_getElem (by omega))).1 _ _ _ hbw (hg j hjn hj2)
      unfold wpOp
      rw [ho]
      show if Region.wanted o (yielded ops.toArray (putAll (ops.take n) 0 y a0).tmps) = true then _ else _
      split
      · rename_i hw
        exact .inl (told_wp hw ht hnext)
      · rename_i hw
        refine hnext undef w (Below.refl _ _) ?_
        unfold toldAt at ht
        rwa [if_neg hw] at ht
def tailB (ops : List Oper) (n : Nat) : Bool := backB ops && nodupB (dsts (ops.take n)) && Region.sinkB .any ops.toArray n && Region.chainB .any ops.toArray n && decide (n < ops.length) && Region.seqB .any ops.toArray (ops.length - n) n (headArr n ops.length)
theorem region_told_tail {id : Nat} (n : Nat) (F : (Nat → Value) → Act) (hm : P.follows .mixedOrders = true) (hB : tailB ops n = true) (hF : (fun y => putAll (ops.take n) 0 y a0) = F)
    (h : Told P ops.toArray w0 F (fun _ a w => wpList P ops.toArray Q (ops.drop n) a w) 0 (fun _ => GTrue) (ops.take n)) : (Code.region id ops.toArray true).wp P Q a0 w0 := by
  subst hF
  simp only [tailB, Bool.and_eq_true, decide_eq_true_eq] at hB
  obtain ⟨⟨⟨⟨⟨h1, h2⟩, h3⟩, h4⟩, h5⟩, h6⟩ := hB
  have htl : (ops.take n).length = n := by rw [List.length_take]; omega
  obtain ⟨GG, _, g2, g3⟩ := told_family (ops.take n) 0 _ (fun _ _ => rfl) h
  refine wp_region_any hm ?_
  have := told_head (P := P) (w0 := w0) (a0 := a0) (Q := Q) n GG h1 (nodup_of h2) h3 h4 h5 h6
    (fun j o hj ho => by simpa using g2 j o (by rw [List.getElem?_take, if_pos hj]; exact ho)) (fun y w hb hg => g3 y w hb (by simpa [htl] using hg))
    ops.toArray.size (Array.replicate ops.toArray.size false) (nowAt (ops.take n) a0) { w0 with drawn := w0.drawn + 1 }
    ⟨by simp, fun j oj _ hl => (by rw [getD_replicate_false] at hl; cases hl), fun t _ ht => getD_in (by simpa using ht) (getD_replicate_false _ _)⟩
    (by simp [List.countP_replicate]) (Below.drew (Below.refl _ _)) (fun i _ hi => by rw [getD_replicate_false] at hi; cases hi)
  rwa [putAll_now (ops.take n) a0 (ops.take n) 0 (by simp)] at this
end
end Go.Proofs.Yteemglgbhdpodaa
