/- In the given program FnExactIsRunMeld answers true for every input, by what its functions compute; no condition. -/
import Derived.Test.YtgnimdlakocpjaaQFnExactIsRunMeldx4
import Derived.Test.YtgnimdlakocpjaaLib
import Derived.Test.YtgnimdlakocpjaaCards
import Derived.Test.YtgnimdlakocpjaaCards2
import Derived.Test.YtgnimdlakocpjaaCalls
import Derived.Test.YtgnimdlakocpjaaHands
import Derived.Test.YtgnimdlakocpjaaSort
namespace Go.Proofs.Ytgnimdlakocpjaa.Pure
open Go.RowKit Go.Proofs.Ytgnimdlakocpjaa.QFnExactIsRunMeld Go.Proofs.YtgnimdlakocpjaaW.PrintWords Go.Proofs.YtgnimdlakocpjaaW.PrintLast Go.Proofs.YtgnimdlakocpjaaW.PrintMore Go.Proofs.Ytgnimdlakocpjaa.Lib
set_option linter.unusedVariables false
set_option linter.unusedSimpArgs false

theorem laws_toIntS_ev (l : List Int) (hl : l.length ≤ 1048576000) : Ev (fun k => laws_toIntS.f k l) l := by
  simp only [laws_toIntS.f]
  refine ev_pos (by omega) (ev_pos (by omega) ?_)
  refine ev_loop (fun k (s : List Int) i => laws_toIntS.l0 k l s i) l (fun _ _ => l) (fun s i => s.length = l.length ∧ s.take i = l.take i) ?_ ?_ _ 0 (by omega) ⟨by simp, by simp⟩
  · rintro s ⟨h1, h2⟩
    refine ev_unfold (fun k => rfl) ?_
    simp only [laws_toIntS.l0]
    refine ev_neg (by omega) (ev_ret ?_)
    rw [List.take_of_length_le (by omega), List.take_of_length_le (by omega)] at h2
    exact h2
  · rintro s i hi ⟨h1, h2⟩ ih
    refine ev_unfold (fun k => rfl) ?_
    simp only [laws_toIntS.l0]
    refine ev_pos (by omega) (ev_pos (by omega) (ev_pos (by omega) ?_))
    rw [w64next i (by omega), rd_at l i hi, Int.toNat_natCast]
    refine ih _ ⟨by simpa using h1, ?_⟩
    apply List.ext_getElem
    · simp; omega
    · intro j hj1 hj2
      simp at hj1 hj2
      simp only [List.getElem_take, List.getElem_set]
      by_cases hij : i = j
      · subst hij; simp
      · rw [if_neg hij]
        have h3 : (s.take i)[j]'(by simp; omega) = (l.take i)[j]'(by simp; omega) := by simp only [h2]
        simpa using h3

theorem laws_eqIntS_ev (a b : List Int) (ha : a.length ≤ 1048576000) : Ev (fun k => laws_eqIntS.f k a b) (decide (a = b)) := by
  simp only [laws_eqIntS.f]
  refine ev_ite (fun hlen => ?_) (fun hne => ev_ret ?_)
  · have hlen' : a.length = b.length := by omega
    have h := ev_loop (fun k (_ : Unit) i => laws_eqIntS.l0 k a b i) a (fun _ r => decide (r = b.drop (a.length - r.length))) (fun _ _ => True) ?_ ?_ () 0 (by omega) trivial
    · refine ev_done h ?_
      simp
    · rintro _ _
      refine ev_unfold (fun k => rfl) ?_
      simp only [laws_eqIntS.l0]
      refine ev_neg (by omega) (ev_ret ?_)
      rw [List.length_nil, Nat.sub_zero, hlen', drop_end]
      simp
    · rintro _ i hi _ ih
      refine ev_unfold (fun k => rfl) ?_
      simp only [laws_eqIntS.l0]
      refine ev_pos (by omega) (ev_pos (by omega) (ev_pos (by omega) ?_))
      rw [w64next i (by omega), rd_at a i hi, rd_at b i (by omega)]
      have e1 : a.length - (a[i] :: a.drop (i + 1)).length = i := by simp; omega
      have e2 : a.length - (a.drop (i + 1)).length = i + 1 := by simp; omega
      refine ev_ite (fun heq => ?_) (fun hne => ev_ret ?_)
      · refine ev_done (ih () trivial) ?_
        rw [e1, e2, drop_at b i (by omega), heq]
        exact decide_eq_decide.2 ⟨fun h => by rw [h], fun h => (List.cons.inj h).2⟩
      · rw [e1, drop_at b i (by omega)]
        exact (decide_eq_false (fun h => hne (List.cons.inj h).1)).symm
  · have : a ≠ b := by rintro rfl; exact hne rfl
    simp [this]

theorem spec_l1In_eq (n a b : Int) : spec_l1In.f n a b = some (inR n a b) := by
  unfold spec_l1In.f inR
  by_cases h : a ≤ n
  · rw [if_pos (by omega)]; simp [h]
  · rw [if_neg (by omega)]; simp [h]

theorem spec_IsCard_eq (c : Int) : spec_IsCard.f c = some (isCard c) := by
  unfold spec_IsCard.f isCard
  rw [spec_l1In_eq]; rfl

theorem spec_HasCard_ev (l : List Int) (c : Int) (hl : l.length ≤ 1048576000) : Ev (fun k => spec_HasCard.f k l c) (hasCard l c) := by
  simp only [spec_HasCard.f]
  refine ev_done (ev_loop (fun k (_ : Unit) i => spec_HasCard.l0 k l c i) l (fun _ r => hasCard r c) (fun _ _ => True) ?_ ?_ () 0 (by omega) trivial) rfl
  · rintro s _
    refine ev_unfold (fun k => rfl) ?_
    simp only [spec_HasCard.l0]
    exact ev_neg (by omega) (ev_ret (by simp [hasCard]))
  · rintro s i hi _ ih
    refine ev_unfold (fun k => rfl) ?_
    simp only [spec_HasCard.l0]
    rw [w64next i (by omega), rd_at l i hi]
    refine ev_pos (by omega) (ev_pos (by omega) (ev_ite (fun h => ev_ret ?_) (fun h => ev_done (ih () trivial) ?_)))
    · simp [hasCard, h]
    · have h2 : ¬ c = l[i] := fun e => h e.symm
      simp only [hasCard, List.mem_cons]
      exact decide_eq_decide.2 ⟨fun h => .inr h, fun h => h.resolve_left h2⟩

theorem spec_IsHand_ev (l : List Int) (hl : l.length ≤ 1048576000) : Ev (fun k => spec_IsHand.f k l) (isHand l) := by
  simp only [spec_IsHand.f]
  refine ev_done (ev_loopN (fun k (_ : Unit) i => spec_IsHand.l0 k l i) l.length (fun _ i => handF (l.take i) (l.drop i)) (fun _ _ => True) ?_ ?_ () 0 (by omega) trivial) (by simp [isHand])
  · rintro s _
    refine ev_unfold (fun k => rfl) ?_
    simp only [spec_IsHand.l0]
    refine ev_neg (by omega) (ev_ret ?_)
    rw [drop_end]; rfl
  · rintro s i hi _ ih
    have ht : (l.take i).length ≤ 1048576000 := by simp; omega
    refine ev_unfold (fun k => rfl) ?_
    simp only [spec_IsHand.l0]
    rw [w64next i (by omega), rd_at l i hi, drop_at l i hi, Int.toNat_natCast]
    unfold handF
    refine ev_pos (by omega) (ev_pos (by omega) (ev_eq (spec_IsCard_eq _) (ev_ite (fun h => ?_) (fun h => ev_ret ?_))))
    · refine ev_pos (by omega) (Ev.bind (spec_HasCard_ev _ _ ht) (ev_ite (fun h2 => ev_ret ?_) (fun h2 => ev_done (ih () trivial) ?_)))
      · rw [h2]; simp
      · rw [Bool.not_eq_true] at h2
        rw [h, h2, take_at l i hi]; simp
    · rw [Bool.not_eq_true] at h
      rw [h]; simp

theorem spec_Sorted_put (l s : List Int) (i q : Nat) (hi : i < l.length) (hq : q ≤ s.length) (hs : s.length ≤ 1048576000) : spec_Sorted.put8 l s (i : Int) (q : Int) = some (insAt s q l[i]) := by
  have e2 : ([] ++ s.take q ++ [l[i]]).length ≤ 1048576001 := by simp; omega
  unfold spec_Sorted.put8
  simp only [Option.bind_some, Int.toNat_natCast]
  rw [rd_at l i hi]
  simp only [List.nil_append, List.length_nil]
  repeat rw [if_pos (by first | omega | (simp; omega))]
  unfold insAt
  rfl
theorem spec_Sorted_ev (l : List Int) (hl : l.length ≤ 1048576000) : Ev (fun k => spec_Sorted.f k l) (sorted l) := by
  simp only [spec_Sorted.f]
  refine ev_done (ev_loop (fun k (s : List Int) i => spec_Sorted.l0 k l s i) l (fun s r => sortF s r) (fun s i => s.length = i) ?_ ?_ [] 0 (by omega) rfl) rfl
  · rintro s _
    refine ev_unfold (fun k => rfl) ?_
    simp only [spec_Sorted.l0]
    exact ev_neg (by omega) (ev_ret rfl)
  · rintro s i hi hs ih
    have l1 : ∀ q : Nat, q ≤ s.length → Ev (fun k => spec_Sorted.l1 k l s (i : Int) (q : Int)) (sortF (insAt s (backF s l[i] q) l[i]) (l.drop (i + 1))) := by
      have fin : ∀ q : Nat, q ≤ s.length → Ev (fun k => (spec_Sorted.put8 l s (i : Int) (q : Int)).bind fun y => (spec_Sorted.l0 k l y (wrap64 ((i : Int) + 1)))) (sortF (insAt s q l[i]) (l.drop (i + 1))) := by
        intro q hq
        refine ev_eq (spec_Sorted_put l s i q hi hq (by omega)) ?_
        rw [w64next i (by omega)]
        refine ih _ ?_
        rw [insAt_length _ _ _ hq, hs]
      intro q
      induction q with
      | zero =>
        intro hq
        refine ev_unfold (fun k => rfl) ?_
        simp only [spec_Sorted.l1]
        refine ev_neg (by omega) ?_
        exact fin 0 (by omega)
      | succ q ihq =>
        intro hq
        refine ev_unfold (fun k => rfl) ?_
        simp only [spec_Sorted.l1]
        have e1 : wrap64 (((q + 1 : Nat) : Int) - 1) = (q : Int) := by rw [w64 _ (by omega)]; omega
        rw [e1, rd_at l i hi]
        refine ev_pos (by omega) (ev_pos (by omega) (ev_pos (by omega) (ev_pos (by omega) (ev_pos (by omega) ?_))))
        unfold backF
        refine ev_ite (fun h => ?_) (fun h => ?_)
        · rw [if_pos h]; exact ihq (by omega)
        · rw [if_neg h]; exact fin (q + 1) hq
    refine ev_unfold (fun k => rfl) ?_
    simp only [spec_Sorted.l0]
    exact ev_pos (by omega) (l1 s.length (Nat.le_refl _))

theorem spec_SuitOf_eq (c : Int) : spec_SuitOf.f c = some (suitOf c) := by
  unfold spec_SuitOf.f suitOf
  rw [spec_IsCard_eq]
  simp only [Option.bind_some]
  by_cases h : isCard c = true
  · have h2 := (isCard_iff c).1 h
    rw [if_pos h, if_pos h, Int.tdiv_eq_ediv_of_nonneg h2.1, w64 _ (by omega)]
  · rw [if_neg h, if_neg h]

theorem spec_IsRunMeld_ev (l : List Int) (hl : l.length ≤ 1048576000) : Ev (fun k => spec_IsRunMeld.f k l) (runMeld l) := by
  have hsl := sorted_length l
  have l0 : Ev (fun k => spec_IsRunMeld.l0 k l (sorted l) 1) (allFrom (sorted l).length 1 (chainA (sorted l)) && (isHand l && decide (3 ≤ l.length))) := by
    by_cases h0 : (sorted l).length = 0
    · refine ev_unfold (fun k => rfl) ?_
      simp only [spec_IsRunMeld.l0]
      refine ev_neg (by omega) (Ev.bind (spec_IsHand_ev l hl) (ev_ite (fun h => ev_ret ?_) (fun h => ev_ret ?_)))
      · rw [h, show decide (3 ≤ l.length) = false from decide_eq_false (by omega)]; simp; omega
      · rw [Bool.not_eq_true] at h; rw [h]; simp
    · refine ev_done (ev_loopN (fun k (_ : Unit) i => spec_IsRunMeld.l0 k l (sorted l) i) (sorted l).length (fun _ i => allFrom (sorted l).length i (chainA (sorted l)) && (isHand l && decide (3 ≤ l.length))) (fun _ i => 1 ≤ i) ?_ ?_ () 1 (by omega) (by omega)) rfl
      · rintro s _
        refine ev_unfold (fun k => rfl) ?_
        simp only [spec_IsRunMeld.l0]
        rw [allFrom_end, Bool.true_and]
        refine ev_neg (by omega) (Ev.bind (spec_IsHand_ev l hl) (ev_ite (fun h => ev_ret ?_) (fun h => ev_ret ?_)))
        · rw [h, Bool.true_and]; exact decide_eq_decide.2 (by omega)
        · rw [Bool.not_eq_true] at h; rw [h]; rfl
      · rintro s i hi h1 ih
        refine ev_unfold (fun k => rfl) ?_
        simp only [spec_IsRunMeld.l0, spec_SuitOf_eq, Option.bind_some]
        rw [w64next i (by omega), w64 ((i : Int) - 1) (by omega), allFrom_step _ hi]
        unfold chainA
        refine ev_pos (by omega) (ev_pos (by omega) (ev_pos (by omega) (ev_ite (fun h => ?_) (fun h => ev_ret ?_))))
        · refine ev_pos (by omega) (ev_pos (by omega) (ev_ite (fun h2 => ev_done (ih () (by omega)) ?_) (fun h2 => ev_ret ?_)))
          · rw [show decide (suitOf (rd (sorted l) (i : Int)) = suitOf (rd (sorted l) 0)) = true from decide_eq_true h, show decide (wrap64 (rd (sorted l) (i : Int) - 1) = rd (sorted l) ((i : Int) - 1)) = true from decide_eq_true h2]
            simp only [Bool.true_and]
            rfl
          · rw [show decide (wrap64 (rd (sorted l) (i : Int) - 1) = rd (sorted l) ((i : Int) - 1)) = false from decide_eq_false h2]; simp
        · rw [show decide (suitOf (rd (sorted l) (i : Int)) = suitOf (rd (sorted l) 0)) = false from decide_eq_false h]; simp
  simp only [spec_IsRunMeld.f]
  refine Ev.bind (spec_Sorted_ev l hl) (ev_done l0 ?_)
  unfold runMeld
  by_cases h : isHand l = true
  · rw [chains (fun x hx => ((isHand_iff l).1 h).1 x (mem_sorted.1 hx)) (by omega), h]
    cases allFrom (sorted l).length 0 (chainB (sorted l)) <;> cases decide (3 ≤ l.length) <;> rfl
  · rw [Bool.not_eq_true] at h; rw [h]; simp

theorem impl_InRange_eq (n a b : Int) : impl_InRange.f n a b = some (inR n a b) := by
  unfold impl_InRange.f inR
  by_cases h : a ≤ n
  · rw [if_pos (by omega)]; simp [h]
  · rw [if_neg (by omega)]; simp [h]

theorem impl_IsCard_eq (c : Int) : impl_IsCard.f c = some (isCard c) := by
  unfold impl_IsCard.f isCard
  rw [impl_InRange_eq]; rfl

theorem impl_IsHand_ev (l : List Int) (hl : l.length ≤ 1048576000) : Ev (fun k => impl_IsHand.f k l) (isHand l) := by
  simp only [impl_IsHand.f]
  refine ev_done (ev_loopN (fun k (s : List Bool) i => impl_IsHand.l0 k l s i) l.length (fun _ i => handF (l.take i) (l.drop i)) (fun s i => s.length = 52 ∧ ∀ c : Nat, c < 52 → s.getD c false = decide ((c : Int) ∈ l.take i)) ?_ ?_ _ 0 (by omega) ⟨by simp, fun c hc => by rw [List.getD_eq_getElem?_getD, List.getElem?_replicate, if_pos hc]; simp⟩) (by simp [isHand])
  · rintro s _
    refine ev_unfold (fun k => rfl) ?_
    simp only [impl_IsHand.l0]
    refine ev_neg (by omega) (ev_ret ?_)
    rw [drop_end]; rfl
  · rintro s i hi ⟨h52, hs⟩ ih
    refine ev_unfold (fun k => rfl) ?_
    simp only [impl_IsHand.l0]
    rw [w64next i (by omega), rd_at l i hi, drop_at l i hi]
    unfold handF
    refine ev_pos (by omega) (ev_pos (by omega) (ev_eq (impl_IsCard_eq _) (ev_ite (fun h => ?_) (fun h => ev_ret ?_))))
    · have hc := (isCard_iff _).1 h
      have he := hs l[i].toNat (by omega)
      rw [show ((l[i].toNat : Nat) : Int) = l[i] by omega] at he
      refine ev_pos (by omega) (ev_pos (by omega) (ev_ite (fun h2 => ev_ret ?_) (fun h2 => ev_done (ih _ ⟨by simpa using h52, fun c hc2 => ?_⟩) ?_)))
      · rw [h2] at he
        unfold hasCard
        rw [← he]; simp
      · rw [take_at l i hi, List.getD_eq_getElem?_getD, List.getElem?_set]
        have h3 := hs c hc2
        rw [List.getD_eq_getElem?_getD] at h3
        by_cases hci : l[i].toNat = c
        · rw [if_pos hci, if_pos (by omega)]
          have : (c : Int) = l[i] := by omega
          exact (decide_eq_true (List.mem_append.2 (.inr (by rw [this]; exact List.mem_singleton.2 rfl)))).symm
        · rw [if_neg hci, h3]
          have : ¬ (c : Int) = l[i] := by omega
          exact decide_eq_decide.2 ⟨fun h => List.mem_append.2 (.inl h), fun h => (List.mem_append.1 h).resolve_right (fun h => this (List.mem_singleton.1 h))⟩
      · rw [Bool.not_eq_true] at h2
        rw [h2] at he
        unfold hasCard
        rw [h, ← he, take_at l i hi]; simp
    · rw [Bool.not_eq_true] at h
      rw [h]; simp

theorem impl_Sorted_ev (l : List Int) (hl : l.length ≤ 1048576000) : Ev (fun k => impl_Sorted.f k l) (sorted l) := by
  simp only [impl_Sorted.f]
  refine ev_done (ev_loop (fun k (s : List Int) i => impl_Sorted.l0 k s l (l.length : Int) i) l (fun s r => sortF s r) (fun s i => s.length = i) ?_ ?_ [] 0 (by omega) rfl) rfl
  · rintro s _
    refine ev_unfold (fun k => rfl) ?_
    simp only [impl_Sorted.l0]
    exact ev_neg (by omega) (ev_ret rfl)
  · rintro s i hi hs ih
    have l1 : ∀ q : Nat, q ≤ s.length → Ev (fun k => impl_Sorted.l1 k s l[i] (q : Int) l (l.length : Int) (i : Int)) (sortF (insAt s (backF s l[i] q) l[i]) (l.drop (i + 1))) := by
      have fin : ∀ q : Nat, q ≤ s.length → Ev (fun k => if s.length < 17592186044416 then ((some (s ++ [0] : List Int)).bind fun y => (if 0 ≤ (q : Int) then (if (q : Int) < (y.length : Int) then (impl_Sorted.l0 k ((Arr.shifted y (q : Int).toNat).set (q : Int).toNat l[i]) l (l.length : Int) (wrap64 ((i : Int) + 1))) else none) else none)) else none) (sortF (insAt s q l[i]) (l.drop (i + 1))) := by
        intro q hq
        refine ev_pos (by omega) ?_
        simp only [Option.bind_some]
        rw [w64next i (by omega), Int.toNat_natCast, shift_set s 0 l[i] q hq]
        refine ev_pos (by omega) (ev_pos (by simp; omega) (ih _ ?_))
        rw [insAt_length _ _ _ hq, hs]
      intro q
      induction q with
      | zero =>
        intro hq
        refine ev_unfold (fun k => rfl) ?_
        simp only [impl_Sorted.l1]
        refine ev_neg (by omega) ?_
        exact fin 0 (by omega)
      | succ q ihq =>
        intro hq
        refine ev_unfold (fun k => rfl) ?_
        simp only [impl_Sorted.l1]
        have e1 : wrap64 (((q + 1 : Nat) : Int) - 1) = (q : Int) := by rw [w64 _ (by omega)]; omega
        rw [e1]
        refine ev_pos (by omega) (ev_pos (by omega) (ev_pos (by omega) ?_))
        unfold backF
        refine ev_ite (fun h => ?_) (fun h => ?_)
        · rw [if_pos h]; exact ihq (by omega)
        · rw [if_neg h]; exact fin (q + 1) hq
    refine ev_unfold (fun k => rfl) ?_
    simp only [impl_Sorted.l0]
    rw [rd_at l i hi]
    exact ev_pos (by omega) (ev_pos (by omega) (ev_pos (by omega) (l1 s.length (Nat.le_refl _))))

theorem impl_SuitOf_eq (c : Int) : impl_SuitOf.f c = some (suitOf c) := by
  unfold impl_SuitOf.f suitOf
  rw [impl_IsCard_eq]
  simp only [Option.bind_some]
  by_cases h : isCard c = true
  · have h2 := (isCard_iff c).1 h
    rw [if_pos h, if_pos h, Int.tdiv_eq_ediv_of_nonneg h2.1, w64 _ (by omega)]
  · rw [if_neg h, if_neg h]

theorem impl_IsRunMeld_ev (l : List Int) (hl : l.length ≤ 1048576000) : Ev (fun k => impl_IsRunMeld.f k l) (runMeld l) := by
  have hsl := sorted_length l
  have l0 : Ev (fun k => impl_IsRunMeld.l0 k (sorted l) (sorted l) ((sorted l).length : Int) 0) (allFrom (sorted l).length 0 (chainB (sorted l))) := by
    refine ev_done (ev_loopN (fun k (_ : Unit) i => impl_IsRunMeld.l0 k (sorted l) (sorted l) ((sorted l).length : Int) i) (sorted l).length (fun _ i => allFrom (sorted l).length i (chainB (sorted l))) (fun _ i => True) ?_ ?_ () 0 (by omega) trivial) rfl
    · rintro s _
      refine ev_unfold (fun k => rfl) ?_
      simp only [impl_IsRunMeld.l0]
      rw [allFrom_end]
      exact ev_neg (by omega) (Ev.now _)
    · rintro s i hi _ ih
      refine ev_unfold (fun k => rfl) ?_
      simp only [impl_IsRunMeld.l0, impl_SuitOf_eq, Option.bind_some]
      rw [w64next i (by omega), allFrom_step _ hi]
      unfold chainB
      refine ev_pos (by omega) (ev_pos (by omega) (ev_pos (by omega) (ev_pos (by omega) (ev_ite (fun h => ?_) (fun h => ev_ret ?_)))))
      · refine ev_ite (fun h2 => ev_done (ih () trivial) ?_) (fun h2 => ev_ret ?_)
        · rw [show decide (suitOf (rd (sorted l) (i : Int)) = suitOf (rd (sorted l) 0)) = true from decide_eq_true h, show decide (rd (sorted l) (i : Int) = wrap64 (rd (sorted l) 0 + (i : Int))) = true from decide_eq_true h2]
          simp only [Bool.true_and]
          rfl
        · rw [show decide (rd (sorted l) (i : Int) = wrap64 (rd (sorted l) 0 + (i : Int))) = false from decide_eq_false h2]; simp
      · rw [show decide (suitOf (rd (sorted l) (i : Int)) = suitOf (rd (sorted l) 0)) = false from decide_eq_false h]; simp
  have j0 : ∀ b, Ev (fun k => impl_IsRunMeld.j0 k l b) (!b && allFrom (sorted l).length 0 (chainB (sorted l))) := by
    intro b
    refine ev_unfold (fun k => rfl) ?_
    simp only [impl_IsRunMeld.j0]
    refine ev_ite (fun h => ?_) (fun h => ?_)
    · rw [h]; exact Ev.now _
    · rw [Bool.not_eq_true] at h; rw [h]
      exact Ev.bind (impl_Sorted_ev l hl) (ev_done l0 (by simp))
  simp only [impl_IsRunMeld.f]
  unfold runMeld
  refine Ev.bind (impl_IsHand_ev l hl) (ev_ite (fun h => ev_done (j0 _) ?_) (fun h => ev_done (j0 _) ?_))
  · rw [h, Bool.true_and]
    congr 1
    by_cases h3 : 3 ≤ l.length
    · rw [show decide ((l.length : Int) < 3) = false from decide_eq_false (by omega), show decide (3 ≤ l.length) = true from decide_eq_true h3]; rfl
    · rw [show decide ((l.length : Int) < 3) = true from decide_eq_true (by omega), show decide (3 ≤ l.length) = false from decide_eq_false h3]; rfl
  · rw [Bool.not_eq_true] at h; rw [h]; rfl

theorem FnExactIsRunMeld : laws_FnExactIsRunMeld.Pure := by
  intro l _ _ _
  refine Ev.rounds ?_
  simp only [laws_FnExactIsRunMeld.f]
  refine ev_ite (fun _ => Ev.now _) (fun h => ?_)
  have hl : l.length ≤ 1048576000 := by omega
  refine Ev.bind (laws_toIntS_ev l hl) (Ev.bind (spec_IsRunMeld_ev l hl) (Ev.bind (laws_toIntS_ev l hl) (Ev.bind (impl_IsRunMeld_ev l hl) (ev_neg (by simp) ?_))))
  exact Ev.bind (laws_toIntS_ev l hl) (Ev.bind (laws_eqIntS_ev l l (by omega)) (ev_pos (by simp) (Ev.now _)))

end Go.Proofs.Ytgnimdlakocpjaa.Pure
