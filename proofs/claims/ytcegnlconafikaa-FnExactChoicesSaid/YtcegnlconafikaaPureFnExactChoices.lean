/- In the given program FnExactChoices answers true for every input, by what its functions compute; no condition. -/
import Derived.Test.YtcegnlconafikaaQFnExactChoicesx6
import Derived.Test.YtcegnlconafikaaLib
import Derived.Test.YtcegnlconafikaaCards
import Derived.Test.YtcegnlconafikaaCards2
import Derived.Test.YtcegnlconafikaaCalls
import Derived.Test.YtcegnlconafikaaHands
import Derived.Test.YtcegnlconafikaaSort
namespace Go.Proofs.Ytcegnlconafikaa.Pure
open Go.RowKit Go.Proofs.Ytcegnlconafikaa.QFnExactChoices Go.Proofs.YtcegnlconafikaaW.PrintWords Go.Proofs.YtcegnlconafikaaW.PrintLast Go.Proofs.YtcegnlconafikaaW.PrintMore Go.Proofs.Ytcegnlconafikaa.Lib
set_option linter.unusedVariables false
set_option linter.unusedSimpArgs false

theorem laws_toIntS_ev (l : List Int) (hl : l.length ≤ 1048576000) : Ev (fun k => laws_toIntS.f k l) l := by
  simp only [laws_toIntS.f]
  refine ev_pos (by omega) (ev_pos (by omega) ?_)
  refine ev_loop (fun k (s : List Int) i => laws_toIntS.l0 k l s i) l (fun _ _ => l) (fun s i => s.length = l.length ∧ s.take i = l.take i) ?_ ?_ _ 0 (by omega) ⟨by simp, by simp⟩
  · rintro s ⟨h1, h2⟩
    refine ev_unfold (fun k => rfl) ?_
    simp only [laws_toIntS.l0]
    refine ev_neg (by omega) (ev_ret ?_)
    rw [List.take_of_length_le (by omega), List.take_of_length_le (by omega)] at h2
    exact h2
  · rintro s i hi ⟨h1, h2⟩ ih
    refine ev_unfold (fun k => rfl) ?_
    simp only [laws_toIntS.l0]
    refine ev_pos (by omega) (ev_pos (by omega) (ev_pos (by omega) ?_))
    rw [w64next i (by omega), rd_at l i hi, Int.toNat_natCast]
    refine ih _ ⟨by simpa using h1, ?_⟩
    apply List.ext_getElem
    · simp; omega
    · intro j hj1 hj2
      simp at hj1 hj2
      simp only [List.getElem_take, List.getElem_set]
      by_cases hij : i = j
      · subst hij; simp
      · rw [if_neg hij]
        have h3 : (s.take i)[j]'(by simp; omega) = (l.take i)[j]'(by simp; omega) := by simp only [h2]
        simpa using h3

theorem laws_eqIntS_ev (a b : List Int) (ha : a.length ≤ 1048576000) : Ev (fun k => laws_eqIntS.f k a b) (decide (a = b)) := by
  simp only [laws_eqIntS.f]
  refine ev_ite (fun hlen => ?_) (fun hne => ev_ret ?_)
  · have hlen' : a.length = b.length := by omega
    have h := ev_loop (fun k (_ : Unit) i => laws_eqIntS.l0 k a b i) a (fun _ r => decide (r = b.drop (a.length - r.length))) (fun _ _ => True) ?_ ?_ () 0 (by omega) trivial
    · refine ev_done h ?_
      simp
    · rintro _ _
      refine ev_unfold (fun k => rfl) ?_
      simp only [laws_eqIntS.l0]
      refine ev_neg (by omega) (ev_ret ?_)
      rw [List.length_nil, Nat.sub_zero, hlen', drop_end]
      simp
    · rintro _ i hi _ ih
      refine ev_unfold (fun k => rfl) ?_
      simp only [laws_eqIntS.l0]
      refine ev_pos (by omega) (ev_pos (by omega) (ev_pos (by omega) ?_))
      rw [w64next i (by omega), rd_at a i hi, rd_at b i (by omega)]
      have e1 : a.length - (a[i] :: a.drop (i + 1)).length = i := by simp; omega
      have e2 : a.length - (a.drop (i + 1)).length = i + 1 := by simp; omega
      refine ev_ite (fun heq => ?_) (fun hne => ev_ret ?_)
      · refine ev_done (ih () trivial) ?_
        rw [e1, e2, drop_at b i (by omega), heq]
        exact decide_eq_decide.2 ⟨fun h => by rw [h], fun h => (List.cons.inj h).2⟩
      · rw [e1, drop_at b i (by omega)]
        exact (decide_eq_false (fun h => hne (List.cons.inj h).1)).symm
  · have : a ≠ b := by rintro rfl; exact hne rfl
    simp [this]

theorem laws_markIntS_ev (l : List Int) (a : Int) (hl : l.length ≤ 1073741824) (ha : 0 ≤ a ∧ a ≤ 1073741824) : Ev (fun k => laws_markIntS.f k l a) (a + (l.length : Int), marks a l.length) := by
  simp only [laws_markIntS.f]
  refine ev_loop (fun k (s : List Int × Int) i => laws_markIntS.l0 k s.1 s.2 i) l (fun _ _ => (a + (l.length : Int), marks a l.length)) (fun s i => s.1.length = l.length ∧ s.2 = a + i ∧ s.1.take i = marks a i) ?_ ?_ (l, a) 0 (by omega) ⟨rfl, by simp, by simp [marks]⟩
  · rintro ⟨s, n⟩ ⟨h1, h2, h3⟩
    simp only at h1 h2 h3
    refine ev_unfold (fun k => rfl) ?_
    simp only [laws_markIntS.l0]
    refine ev_neg (by omega) (ev_ret ?_)
    rw [List.take_of_length_le (by omega)] at h3
    rw [h2, h3]
  · rintro ⟨s, n⟩ i hi ⟨h1, h2, h3⟩ ih
    simp only at h1 h2 h3
    refine ev_unfold (fun k => rfl) ?_
    simp only [laws_markIntS.l0]
    refine ev_pos (by omega) (ev_pos (by omega) ?_)
    rw [w64next i (by omega), Int.toNat_natCast, w64 (n + 1) (by omega)]
    refine ih (s.set i n, n + 1) ⟨by simpa using h1, by simp only; omega, ?_⟩
    simp only [h2]
    exact marks_step a s i (by omega) h3

theorem laws_heldIntS_ev (n : Nat) (a : Int) (hn : n ≤ 1073741824) (ha : 0 ≤ a ∧ a ≤ 1073741824) : Ev (fun k => laws_heldIntS.f k (marks a n) a) (a + (n : Int)) := by
  have hl := marks_length a n
  simp only [laws_heldIntS.f]
  refine ev_loop (fun k (s : Int) i => laws_heldIntS.l0 k (marks a n) s i) (marks a n) (fun _ _ => a + (n : Int)) (fun s i => s = a + i) ?_ ?_ a 0 (by omega) (by simp)
  · rintro s h
    refine ev_unfold (fun k => rfl) ?_
    simp only [laws_heldIntS.l0]
    refine ev_neg (by omega) (ev_ret ?_)
    rw [h, hl]
  · rintro s i hi h ih
    refine ev_unfold (fun k => rfl) ?_
    simp only [laws_heldIntS.l0]
    refine ev_pos (by omega) (ev_pos (by omega) ?_)
    rw [w64next i (by omega), rd_at _ i hi, marks_at, w64 (s + 1) (by omega)]
    refine ev_pos h.symm (ih _ (by omega))

theorem spec_Sorted_put (l s : List Int) (i q : Nat) (hi : i < l.length) (hq : q ≤ s.length) (hs : s.length ≤ 1048576000) : spec_Sorted.put8 l s (i : Int) (q : Int) = some (insAt s q l[i]) := by
  have e2 : ([] ++ s.take q ++ [l[i]]).length ≤ 1048576001 := by simp; omega
  unfold spec_Sorted.put8
  simp only [Option.bind_some, Int.toNat_natCast]
  rw [rd_at l i hi]
  simp only [List.nil_append, List.length_nil]
  repeat rw [if_pos (by first | omega | (simp; omega))]
  unfold insAt
  rfl
theorem spec_Sorted_ev (l : List Int) (hl : l.length ≤ 1048576000) : Ev (fun k => spec_Sorted.f k l) (sorted l) := by
  simp only [spec_Sorted.f]
  refine ev_done (ev_loop (fun k (s : List Int) i => spec_Sorted.l0 k l s i) l (fun s r => sortF s r) (fun s i => s.length = i) ?_ ?_ [] 0 (by omega) rfl) rfl
  · rintro s _
    refine ev_unfold (fun k => rfl) ?_
    simp only [spec_Sorted.l0]
    exact ev_neg (by omega) (ev_ret rfl)
  · rintro s i hi hs ih
    have l1 : ∀ q : Nat, q ≤ s.length → Ev (fun k => spec_Sorted.l1 k l s (i : Int) (q : Int)) (sortF (insAt s (backF s l[i] q) l[i]) (l.drop (i + 1))) := by
      have fin : ∀ q : Nat, q ≤ s.length → Ev (fun k => (spec_Sorted.put8 l s (i : Int) (q : Int)).bind fun y => (spec_Sorted.l0 k l y (wrap64 ((i : Int) + 1)))) (sortF (insAt s q l[i]) (l.drop (i + 1))) := by
        intro q hq
        refine ev_eq (spec_Sorted_put l s i q hi hq (by omega)) ?_
        rw [w64next i (by omega)]
        refine ih _ ?_
        rw [insAt_length _ _ _ hq, hs]
      intro q
      induction q with
      | zero =>
        intro hq
        refine ev_unfold (fun k => rfl) ?_
        simp only [spec_Sorted.l1]
        refine ev_neg (by omega) ?_
        exact fin 0 (by omega)
      | succ q ihq =>
        intro hq
        refine ev_unfold (fun k => rfl) ?_
        simp only [spec_Sorted.l1]
        have e1 : wrap64 (((q + 1 : Nat) : Int) - 1) = (q : Int) := by rw [w64 _ (by omega)]; omega
        rw [e1, rd_at l i hi]
        refine ev_pos (by omega) (ev_pos (by omega) (ev_pos (by omega) (ev_pos (by omega) (ev_pos (by omega) ?_))))
        unfold backF
        refine ev_ite (fun h => ?_) (fun h => ?_)
        · rw [if_pos h]; exact ihq (by omega)
        · rw [if_neg h]; exact fin (q + 1) hq
    refine ev_unfold (fun k => rfl) ?_
    simp only [spec_Sorted.l0]
    exact ev_pos (by omega) (l1 s.length (Nat.le_refl _))

theorem spec_l1In_eq (n a b : Int) : spec_l1In.f n a b = some (inR n a b) := by
  unfold spec_l1In.f inR
  by_cases h : a ≤ n
  · rw [if_pos (by omega)]; simp [h]
  · rw [if_neg (by omega)]; simp [h]

theorem spec_IsCard_eq (c : Int) : spec_IsCard.f c = some (isCard c) := by
  unfold spec_IsCard.f isCard
  rw [spec_l1In_eq]; rfl

theorem spec_HasCard_ev (l : List Int) (c : Int) (hl : l.length ≤ 1048576000) : Ev (fun k => spec_HasCard.f k l c) (hasCard l c) := by
  simp only [spec_HasCard.f]
  refine ev_done (ev_loop (fun k (_ : Unit) i => spec_HasCard.l0 k l c i) l (fun _ r => hasCard r c) (fun _ _ => True) ?_ ?_ () 0 (by omega) trivial) rfl
  · rintro s _
    refine ev_unfold (fun k => rfl) ?_
    simp only [spec_HasCard.l0]
    exact ev_neg (by omega) (ev_ret (by simp [hasCard]))
  · rintro s i hi _ ih
    refine ev_unfold (fun k => rfl) ?_
    simp only [spec_HasCard.l0]
    rw [w64next i (by omega), rd_at l i hi]
    refine ev_pos (by omega) (ev_pos (by omega) (ev_ite (fun h => ev_ret ?_) (fun h => ev_done (ih () trivial) ?_)))
    · simp [hasCard, h]
    · have h2 : ¬ c = l[i] := fun e => h e.symm
      simp only [hasCard, List.mem_cons]
      exact decide_eq_decide.2 ⟨fun h => .inr h, fun h => h.resolve_left h2⟩

theorem spec_IsHand_ev (l : List Int) (hl : l.length ≤ 1048576000) : Ev (fun k => spec_IsHand.f k l) (isHand l) := by
  simp only [spec_IsHand.f]
  refine ev_done (ev_loopN (fun k (_ : Unit) i => spec_IsHand.l0 k l i) l.length (fun _ i => handF (l.take i) (l.drop i)) (fun _ _ => True) ?_ ?_ () 0 (by omega) trivial) (by simp [isHand])
  · rintro s _
    refine ev_unfold (fun k => rfl) ?_
    simp only [spec_IsHand.l0]
    refine ev_neg (by omega) (ev_ret ?_)
    rw [drop_end]; rfl
  · rintro s i hi _ ih
    have ht : (l.take i).length ≤ 1048576000 := by simp; omega
    refine ev_unfold (fun k => rfl) ?_
    simp only [spec_IsHand.l0]
    rw [w64next i (by omega), rd_at l i hi, drop_at l i hi, Int.toNat_natCast]
    unfold handF
    refine ev_pos (by omega) (ev_pos (by omega) (ev_eq (spec_IsCard_eq _) (ev_ite (fun h => ?_) (fun h => ev_ret ?_))))
    · refine ev_pos (by omega) (Ev.bind (spec_HasCard_ev _ _ ht) (ev_ite (fun h2 => ev_ret ?_) (fun h2 => ev_done (ih () trivial) ?_)))
      · rw [h2]; simp
      · rw [Bool.not_eq_true] at h2
        rw [h, h2, take_at l i hi]; simp
    · rw [Bool.not_eq_true] at h
      rw [h]; simp

theorem spec_SuitOf_eq (c : Int) : spec_SuitOf.f c = some (suitOf c) := by
  unfold spec_SuitOf.f suitOf
  rw [spec_IsCard_eq]
  simp only [Option.bind_some]
  by_cases h : isCard c = true
  · have h2 := (isCard_iff c).1 h
    rw [if_pos h, if_pos h, Int.tdiv_eq_ediv_of_nonneg h2.1, w64 _ (by omega)]
  · rw [if_neg h, if_neg h]

theorem spec_MayPlay_ev (h t : List Int) (c : Int) (hl : h.length ≤ 1048576000) (tl : t.length ≤ 1048576000) : Ev (fun k => spec_MayPlay.f k h t c) (mayPlay h t c) := by
  have l0 : 0 < t.length → Ev (fun k => spec_MayPlay.l0 k h t 0) (h.all fun x => !decide (suitOf x = suitOf (rd t 0))) := by
    intro ht
    refine ev_done (ev_loop (fun k (_ : Unit) i => spec_MayPlay.l0 k h t i) h (fun _ r => r.all fun x => !decide (suitOf x = suitOf (rd t 0))) (fun _ _ => True) ?_ ?_ () 0 (by omega) trivial) rfl
    · rintro s _
      refine ev_unfold (fun k => rfl) ?_
      simp only [spec_MayPlay.l0]
      exact ev_neg (by omega) (ev_ret rfl)
    · rintro s i hi _ ih
      refine ev_unfold (fun k => rfl) ?_
      simp only [spec_MayPlay.l0, spec_SuitOf_eq, Option.bind_some]
      rw [w64next i (by omega), rd_at h i hi, List.all_cons]
      refine ev_pos (by omega) (ev_pos (by omega) (ev_pos (by omega) ?_))
      refine ev_ite (fun h2 => ev_ret ?_) (fun h2 => ev_done (ih () trivial) ?_)
      · rw [show decide (suitOf h[i] = suitOf (rd t 0)) = true from decide_eq_true h2]; rfl
      · rw [show decide (suitOf h[i] = suitOf (rd t 0)) = false from decide_eq_false h2]; rfl
  have j1 : ∀ b, (b = false → 0 < t.length) → Ev (fun k => spec_MayPlay.j1 k h t b) (b || h.all fun x => !decide (suitOf x = suitOf (rd t 0))) := by
    intro b hb
    refine ev_unfold (fun k => rfl) ?_
    simp only [spec_MayPlay.j1]
    refine ev_ite (fun h2 => ?_) (fun h2 => ?_)
    · rw [h2]; exact Ev.now _
    · rw [Bool.not_eq_true] at h2; rw [h2]; exact l0 (hb h2)
  have j0 : ∀ b, Ev (fun k => spec_MayPlay.j0 k h t c b) (!b && ((decide (t.length = 0) || decide (suitOf c = suitOf (rd t 0))) || h.all fun x => !decide (suitOf x = suitOf (rd t 0)))) := by
    intro b
    refine ev_unfold (fun k => rfl) ?_
    simp only [spec_MayPlay.j0, spec_SuitOf_eq, Option.bind_some]
    refine ev_ite (fun h2 => ?_) (fun h2 => ?_)
    · rw [h2]; exact Ev.now _
    · rw [Bool.not_eq_true] at h2; rw [h2]
      refine ev_ite (fun h3 => ?_) (fun h3 => ?_)
      · refine ev_done (j1 true (fun z => by cases z)) ?_
        rw [show decide (t.length = 0) = true from decide_eq_true (by omega)]; rfl
      · refine ev_pos (by omega) (ev_done (j1 _ (fun _ => by omega)) ?_)
        rw [show decide (t.length = 0) = false from decide_eq_false (by omega)]
        by_cases h4 : suitOf c = suitOf (rd t 0)
        · simp [h4]
        · simp [h4]
  simp only [spec_MayPlay.f]
  unfold mayPlay
  refine Ev.bind (spec_IsHand_ev h hl) (ev_ite (fun h2 => ?_) (fun h2 => ev_done (j0 _) ?_))
  · refine Ev.bind (spec_HasCard_ev h c hl) (ev_done (j0 _) ?_)
    rw [h2]; simp
  · rw [Bool.not_eq_true] at h2; rw [h2]; rfl

theorem spec_Choices_ev (h t : List Int) (hl : h.length ≤ 1048576000) (tl : t.length ≤ 1048576000) : Ev (fun k => spec_Choices.f k h t) (choices h t) := by
  have sl : (sorted h).length ≤ 1048576000 := by rw [sorted_length]; exact hl
  simp only [spec_Choices.f]
  refine Ev.bind (spec_Sorted_ev h hl) ?_
  unfold choices
  generalize sorted h = l at sl
  refine ev_done (ev_loop (fun k (s : List Int) i => spec_Choices.l0 k h t s l i) l (fun s r => s ++ r.filter (mayPlay h t)) (fun s i => s.length ≤ i) ?_ ?_ [] 0 (by omega) (by simp)) (by simp)
  · rintro s _
    refine ev_unfold (fun k => rfl) ?_
    simp only [spec_Choices.l0]
    exact ev_neg (by omega) (ev_ret (by simp))
  · rintro s i hi hs ih
    refine ev_unfold (fun k => rfl) ?_
    simp only [spec_Choices.l0]
    rw [w64next i (by omega), rd_at l i hi]
    refine ev_pos (by omega) (ev_pos (by omega) (Ev.bind (spec_MayPlay_ev h t _ hl tl) ?_))
    rw [List.filter_cons]
    refine ev_ite (fun h2 => ?_) (fun h2 => ?_)
    · rw [if_pos h2]
      refine ev_pos (by omega) (ev_done (ih _ (by simp; omega)) (by simp))
    · rw [if_neg h2]
      exact ih _ (by omega)

theorem impl_Sorted_ev (l : List Int) (hl : l.length ≤ 1048576000) : Ev (fun k => impl_Sorted.f k l) (sorted l) := by
  simp only [impl_Sorted.f]
  refine ev_done (ev_loop (fun k (s : List Int) i => impl_Sorted.l0 k s l (l.length : Int) i) l (fun s r => sortF s r) (fun s i => s.length = i) ?_ ?_ [] 0 (by omega) rfl) rfl
  · rintro s _
    refine ev_unfold (fun k => rfl) ?_
    simp only [impl_Sorted.l0]
    exact ev_neg (by omega) (ev_ret rfl)
  · rintro s i hi hs ih
    have l1 : ∀ q : Nat, q ≤ s.length → Ev (fun k => impl_Sorted.l1 k s l[i] (q : Int) l (l.length : Int) (i : Int)) (sortF (insAt s (backF s l[i] q) l[i]) (l.drop (i + 1))) := by
      have fin : ∀ q : Nat, q ≤ s.length → Ev (fun k => if s.length < 17592186044416 then ((some (s ++ [0] : List Int)).bind fun y => (if 0 ≤ (q : Int) then (if (q : Int) < (y.length : Int) then (impl_Sorted.l0 k ((Arr.shifted y (q : Int).toNat).set (q : Int).toNat l[i]) l (l.length : Int) (wrap64 ((i : Int) + 1))) else none) else none)) else none) (sortF (insAt s q l[i]) (l.drop (i + 1))) := by
        intro q hq
        refine ev_pos (by omega) ?_
        simp only [Option.bind_some]
        rw [w64next i (by omega), Int.toNat_natCast, shift_set s 0 l[i] q hq]
        refine ev_pos (by omega) (ev_pos (by simp; omega) (ih _ ?_))
        rw [insAt_length _ _ _ hq, hs]
      intro q
      induction q with
      | zero =>
        intro hq
        refine ev_unfold (fun k => rfl) ?_
        simp only [impl_Sorted.l1]
        refine ev_neg (by omega) ?_
        exact fin 0 (by omega)
      | succ q ihq =>
        intro hq
        refine ev_unfold (fun k => rfl) ?_
        simp only [impl_Sorted.l1]
        have e1 : wrap64 (((q + 1 : Nat) : Int) - 1) = (q : Int) := by rw [w64 _ (by omega)]; omega
        rw [e1]
        refine ev_pos (by omega) (ev_pos (by omega) (ev_pos (by omega) ?_))
        unfold backF
        refine ev_ite (fun h => ?_) (fun h => ?_)
        · rw [if_pos h]; exact ihq (by omega)
        · rw [if_neg h]; exact fin (q + 1) hq
    refine ev_unfold (fun k => rfl) ?_
    simp only [impl_Sorted.l0]
    rw [rd_at l i hi]
    exact ev_pos (by omega) (ev_pos (by omega) (ev_pos (by omega) (l1 s.length (Nat.le_refl _))))

theorem impl_PlaceOf_ev (l : List Int) (c : Int) (hl : l.length ≤ 1048576000) : Ev (fun k => impl_PlaceOf.f k l c) (placeOf l c) := by
  simp only [impl_PlaceOf.f]
  refine ev_loopN (fun k (_ : Unit) i => impl_PlaceOf.l0 k c l (l.length : Int) i) l.length (fun _ i => placeF c i (l.drop i)) (fun _ _ => True) ?_ ?_ () 0 (by omega) trivial
  · rintro s _
    refine ev_unfold (fun k => rfl) ?_
    simp only [impl_PlaceOf.l0]
    refine ev_neg (by omega) (ev_ret ?_)
    rw [drop_end]; rfl
  · rintro s i hi _ ih
    refine ev_unfold (fun k => rfl) ?_
    simp only [impl_PlaceOf.l0]
    refine ev_pos (by omega) (ev_pos (by omega) (ev_pos (by omega) ?_))
    rw [w64next i (by omega), rd_at l i hi, drop_at l i hi]
    unfold placeF
    refine ev_ite (fun h => ev_ret ?_) (fun h => ev_done (ih () trivial) ?_)
    · rw [if_pos h]
    · rw [if_neg h]; congr 1

theorem impl_HasCard_ev (l : List Int) (c : Int) (hl : l.length ≤ 1048576000) : Ev (fun k => impl_HasCard.f k l c) (hasCard l c) := by
  simp only [impl_HasCard.f]
  refine Ev.bind (impl_PlaceOf_ev l c hl) (ev_ret ?_)
  unfold hasCard
  exact decide_eq_decide.2 (placeOf_nonneg l c)

theorem impl_InRange_eq (n a b : Int) : impl_InRange.f n a b = some (inR n a b) := by
  unfold impl_InRange.f inR
  by_cases h : a ≤ n
  · rw [if_pos (by omega)]; simp [h]
  · rw [if_neg (by omega)]; simp [h]

theorem impl_IsCard_eq (c : Int) : impl_IsCard.f c = some (isCard c) := by
  unfold impl_IsCard.f isCard
  rw [impl_InRange_eq]; rfl

theorem impl_IsHand_ev (l : List Int) (hl : l.length ≤ 1048576000) : Ev (fun k => impl_IsHand.f k l) (isHand l) := by
  simp only [impl_IsHand.f]
  refine ev_done (ev_loopN (fun k (s : List Bool) i => impl_IsHand.l0 k l s i) l.length (fun _ i => handF (l.take i) (l.drop i)) (fun s i => s.length = 52 ∧ ∀ c : Nat, c < 52 → s.getD c false = decide ((c : Int) ∈ l.take i)) ?_ ?_ _ 0 (by omega) ⟨by simp, fun c hc => by rw [List.getD_eq_getElem?_getD, List.getElem?_replicate, if_pos hc]; simp⟩) (by simp [isHand])
  · rintro s _
    refine ev_unfold (fun k => rfl) ?_
    simp only [impl_IsHand.l0]
    refine ev_neg (by omega) (ev_ret ?_)
    rw [drop_end]; rfl
  · rintro s i hi ⟨h52, hs⟩ ih
    refine ev_unfold (fun k => rfl) ?_
    simp only [impl_IsHand.l0]
    rw [w64next i (by omega), rd_at l i hi, drop_at l i hi]
    unfold handF
    refine ev_pos (by omega) (ev_pos (by omega) (ev_eq (impl_IsCard_eq _) (ev_ite (fun h => ?_) (fun h => ev_ret ?_))))
    · have hc := (isCard_iff _).1 h
      have he := hs l[i].toNat (by omega)
      rw [show ((l[i].toNat : Nat) : Int) = l[i] by omega] at he
      refine ev_pos (by omega) (ev_pos (by omega) (ev_ite (fun h2 => ev_ret ?_) (fun h2 => ev_done (ih _ ⟨by simpa using h52, fun c hc2 => ?_⟩) ?_)))
      · rw [h2] at he
        unfold hasCard
        rw [← he]; simp
      · rw [take_at l i hi, List.getD_eq_getElem?_getD, List.getElem?_set]
        have h3 := hs c hc2
        rw [List.getD_eq_getElem?_getD] at h3
        by_cases hci : l[i].toNat = c
        · rw [if_pos hci, if_pos (by omega)]
          have : (c : Int) = l[i] := by omega
          exact (decide_eq_true (List.mem_append.2 (.inr (by rw [this]; exact List.mem_singleton.2 rfl)))).symm
        · rw [if_neg hci, h3]
          have : ¬ (c : Int) = l[i] := by omega
          exact decide_eq_decide.2 ⟨fun h => List.mem_append.2 (.inl h), fun h => (List.mem_append.1 h).resolve_right (fun h => this (List.mem_singleton.1 h))⟩
      · rw [Bool.not_eq_true] at h2
        rw [h2] at he
        unfold hasCard
        rw [h, ← he, take_at l i hi]; simp
    · rw [Bool.not_eq_true] at h
      rw [h]; simp

theorem impl_SuitOf_eq (c : Int) : impl_SuitOf.f c = some (suitOf c) := by
  unfold impl_SuitOf.f suitOf
  rw [impl_IsCard_eq]
  simp only [Option.bind_some]
  by_cases h : isCard c = true
  · have h2 := (isCard_iff c).1 h
    rw [if_pos h, if_pos h, Int.tdiv_eq_ediv_of_nonneg h2.1, w64 _ (by omega)]
  · rw [if_neg h, if_neg h]

theorem impl_MayPlay_ev (h t : List Int) (c : Int) (hl : h.length ≤ 1048576000) (tl : t.length ≤ 1048576000) : Ev (fun k => impl_MayPlay.f k h t c) (mayPlay h t c) := by
  have l0 : 0 < t.length → Ev (fun k => impl_MayPlay.l0 k t h (h.length : Int) 0) (h.all fun x => !decide (suitOf x = suitOf (rd t 0))) := by
    intro ht
    refine ev_done (ev_loop (fun k (_ : Unit) i => impl_MayPlay.l0 k t h (h.length : Int) i) h (fun _ r => r.all fun x => !decide (suitOf x = suitOf (rd t 0))) (fun _ _ => True) ?_ ?_ () 0 (by omega) trivial) rfl
    · rintro s _
      refine ev_unfold (fun k => rfl) ?_
      simp only [impl_MayPlay.l0]
      exact ev_neg (by omega) (ev_ret rfl)
    · rintro s i hi _ ih
      refine ev_unfold (fun k => rfl) ?_
      simp only [impl_MayPlay.l0, impl_SuitOf_eq, Option.bind_some]
      rw [w64next i (by omega), rd_at h i hi, List.all_cons]
      refine ev_pos (by omega) (ev_pos (by omega) (ev_pos (by omega) (ev_pos (by omega) ?_)))
      refine ev_ite (fun h2 => ev_ret ?_) (fun h2 => ev_done (ih () trivial) ?_)
      · rw [show decide (suitOf h[i] = suitOf (rd t 0)) = true from decide_eq_true h2]; rfl
      · rw [show decide (suitOf h[i] = suitOf (rd t 0)) = false from decide_eq_false h2]; rfl
  have j1 : ∀ b, (b = false → 0 < t.length) → Ev (fun k => impl_MayPlay.j1 k h t b) (b || h.all fun x => !decide (suitOf x = suitOf (rd t 0))) := by
    intro b hb
    refine ev_unfold (fun k => rfl) ?_
    simp only [impl_MayPlay.j1]
    refine ev_ite (fun h2 => ?_) (fun h2 => ?_)
    · rw [h2]; exact Ev.now _
    · rw [Bool.not_eq_true] at h2; rw [h2]; exact l0 (hb h2)
  have j0 : ∀ b, Ev (fun k => impl_MayPlay.j0 k h t c b) (!b && ((decide (t.length = 0) || decide (suitOf c = suitOf (rd t 0))) || h.all fun x => !decide (suitOf x = suitOf (rd t 0)))) := by
    intro b
    refine ev_unfold (fun k => rfl) ?_
    simp only [impl_MayPlay.j0, impl_SuitOf_eq, Option.bind_some]
    refine ev_ite (fun h2 => ?_) (fun h2 => ?_)
    · rw [h2]; exact Ev.now _
    · rw [Bool.not_eq_true] at h2; rw [h2]
      refine ev_ite (fun h3 => ?_) (fun h3 => ?_)
      · refine ev_done (j1 true (fun z => by cases z)) ?_
        rw [show decide (t.length = 0) = true from decide_eq_true (by omega)]; rfl
      · refine ev_pos (by omega) (ev_done (j1 _ (fun _ => by omega)) ?_)
        rw [show decide (t.length = 0) = false from decide_eq_false (by omega)]
        by_cases h4 : suitOf c = suitOf (rd t 0)
        · simp [h4]
        · simp [h4]
  simp only [impl_MayPlay.f]
  unfold mayPlay
  refine Ev.bind (impl_IsHand_ev h hl) (ev_ite (fun h2 => ?_) (fun h2 => ev_done (j0 _) ?_))
  · refine Ev.bind (impl_HasCard_ev h c hl) (ev_done (j0 _) ?_)
    rw [h2]; simp
  · rw [Bool.not_eq_true] at h2; rw [h2]; rfl

theorem impl_Choices_ev (h t : List Int) (hl : h.length ≤ 1048576000) (tl : t.length ≤ 1048576000) : Ev (fun k => impl_Choices.f k h t) (choices h t) := by
  have sl : (sorted h).length ≤ 1048576000 := by rw [sorted_length]; exact hl
  simp only [impl_Choices.f]
  refine Ev.bind (impl_Sorted_ev h hl) ?_
  unfold choices
  generalize sorted h = l at sl
  refine ev_done (ev_loop (fun k (s : List Int) i => impl_Choices.l0 k h t s l (l.length : Int) i) l (fun s r => s ++ r.filter (mayPlay h t)) (fun s i => s.length ≤ i) ?_ ?_ [] 0 (by omega) (by simp)) (by simp)
  · rintro s _
    refine ev_unfold (fun k => rfl) ?_
    simp only [impl_Choices.l0]
    exact ev_neg (by omega) (ev_ret (by simp))
  · rintro s i hi hs ih
    refine ev_unfold (fun k => rfl) ?_
    simp only [impl_Choices.l0]
    rw [w64next i (by omega), rd_at l i hi]
    refine ev_pos (by omega) (ev_pos (by omega) (ev_pos (by omega) (Ev.bind (impl_MayPlay_ev h t _ hl tl) ?_)))
    rw [List.filter_cons]
    refine ev_ite (fun h2 => ?_) (fun h2 => ?_)
    · rw [if_pos h2]
      refine ev_pos (by omega) (ev_done (ih _ (by simp; omega)) (by simp))
    · rw [if_neg h2]
      exact ih _ (by omega)

theorem FnExactChoices : laws_FnExactChoices.Pure := by
  intro l t _ _ _ _ _ _
  refine Ev.rounds ?_
  simp only [laws_FnExactChoices.f]
  refine ev_ite (fun _ => Ev.now _) (fun h => ?_)
  refine ev_ite (fun _ => Ev.now _) (fun h' => ?_)
  have hl : l.length ≤ 1048576000 := by omega
  have ht : t.length ≤ 1048576000 := by omega
  have hg := choices_length l t
  have eqs := laws_eqIntS_ev (choices l t) (choices l t) (by omega)
  have es := spec_Choices_ev l t hl ht
  have ei := impl_Choices_ev l t hl ht
  have j0 : Ev (fun k => laws_FnExactChoices.j0 k l t (choices l t) (choices l t) false) true := by
    refine ev_unfold (fun k => rfl) ?_
    simp only [laws_FnExactChoices.j0]
    refine ev_neg (by simp) (Ev.bind (laws_markIntS_ev _ 1 (by omega) (by omega)) (Ev.bind (laws_heldIntS_ev _ 1 (by omega) (by omega)) (ev_neg (by omega) (ev_pos rfl ?_))))
    refine Ev.bind (laws_toIntS_ev l hl) (Ev.bind (laws_toIntS_ev t ht) (Ev.bind ei (Ev.bind eqs (ev_pos (by simp) ?_))))
    exact Ev.bind (laws_heldIntS_ev _ 1 (by omega) (by omega)) (ev_neg (by omega) (ev_pos rfl (Ev.now _)))
  refine Ev.bind (laws_toIntS_ev l hl) (Ev.bind (laws_toIntS_ev t ht) (Ev.bind es (Ev.bind (laws_toIntS_ev l hl) (Ev.bind (laws_toIntS_ev t ht) (Ev.bind ei (Ev.bind eqs (ev_pos (by simp) ?_)))))))
  refine Ev.bind (laws_toIntS_ev l hl) (Ev.bind (laws_eqIntS_ev l l (by omega)) (ev_pos (by simp) ?_))
  refine Ev.bind (laws_toIntS_ev t ht) (Ev.bind (laws_eqIntS_ev t t (by omega)) (ev_pos (by simp) ?_))
  refine Ev.bind (laws_markIntS_ev l 1 (by omega) (by omega)) (Ev.bind (laws_markIntS_ev t _ (by first | omega | (simp only; omega)) (by first | omega | (simp only; omega))) (ev_neg (by first | omega | (simp only; omega)) (Ev.bind eqs ?_)))
  refine ev_done (Ev.congr (fun k => ?_) j0) rfl
  simp

end Go.Proofs.Ytcegnlconafikaa.Pure
