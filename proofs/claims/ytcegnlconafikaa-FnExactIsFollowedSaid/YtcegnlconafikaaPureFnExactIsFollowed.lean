/- In the given program FnExactIsFollowed answers true for every input, by what its functions compute; no condition. -/
import Derived.Test.YtcegnlconafikaaQFnExactIsFollowedx5
import Derived.Test.YtcegnlconafikaaLib
import Derived.Test.YtcegnlconafikaaCards
import Derived.Test.YtcegnlconafikaaCards2
import Derived.Test.YtcegnlconafikaaCalls
import Derived.Test.YtcegnlconafikaaSheets
import Derived.Test.YtcegnlconafikaaHands
namespace Go.Proofs.Ytcegnlconafikaa.Pure
open Go.RowKit Go.Proofs.Ytcegnlconafikaa.QFnExactIsFollowed Go.Proofs.YtcegnlconafikaaW.PrintWords Go.Proofs.YtcegnlconafikaaW.PrintLast Go.Proofs.YtcegnlconafikaaW.PrintMore Go.Proofs.Ytcegnlconafikaa.Lib
set_option linter.unusedVariables false
set_option linter.unusedSimpArgs false

theorem laws_szIntS_eq (l : List Int) (a : Int) (ha : -1 ≤ a ∧ a ≤ 1048576) (hl : l.length ≤ maxLen) : laws_szIntS.f l a = some (bLeft a l.length) := by
  simp only [maxLen] at hl
  unfold laws_szIntS.f bLeft
  rw [w64 _ (by omega)]
  split <;> rfl

theorem rdss_at (l : List (List Int)) (i : Nat) (h : i < l.length) : rd_L1 l (i : Int) = l[i] := by
  unfold rd_L1
  rw [Int.toNat_natCast, List.getD_eq_getElem?_getD, List.getElem?_eq_getElem h]
  rfl
theorem laws_szIntSS_ev (l : List (List Int)) (a : Int) (ha : 0 ≤ a ∧ a ≤ 1048576) (hl : l.length ≤ maxLen) (hr : ∀ r ∈ l, r.length ≤ maxLen) : Ev (fun k => laws_szIntSS.f k l a) (bLeft a (l.length + totalLen l)) := by
  simp only [maxLen] at hl
  simp only [laws_szIntSS.f]
  rw [w64 (a - (l.length : Int)) (by omega)]
  refine ev_ite (fun h => ev_ret ?_) (fun h => ?_)
  · exact (bLeft_no (by unfold bLeft; rw [if_pos h]; omega)).symm
  · have h0 : ¬ bLeft a l.length < 0 := by unfold bLeft; rw [if_neg h]; exact h
    have e0 := (bLeft_some h0).2
    rw [← e0]
    refine ev_done (ev_loop (fun k (s : Int) i => laws_szIntSS.l0 k l s i) l (fun s r => bLeft s (totalLen r)) (fun s i => 0 ≤ s ∧ s ≤ 1048576 ∧ l.length ≤ 1048576) ?_ ?_ (bLeft a l.length) 0 (by omega) ⟨by omega, by omega, by omega⟩) ?_
    · rintro s ⟨h1, _, _⟩
      refine ev_unfold (fun k => rfl) ?_
      simp only [laws_szIntSS.l0]
      refine ev_neg (by omega) (ev_ret ?_)
      unfold bLeft totalLen
      simp; omega
    · rintro s i hi ⟨h1, h2, h3⟩ ih
      refine ev_unfold (fun k => rfl) ?_
      simp only [laws_szIntSS.l0]
      rw [w64next i (by omega), rdss_at l i hi, totalLen_cons]
      refine ev_pos (by omega) (ev_pos (by omega) (ev_eq (laws_szIntS_eq _ _ (by omega) (hr _ (List.getElem_mem hi))) ?_))
      refine ev_ite (fun h => ev_ret (bLeft_no h).symm) (fun h => ?_)
      have h4 := bLeft_some h
      refine ev_done (ih (bLeft s l[i].length) ⟨by omega, by omega, h3⟩) ?_
      exact bLeft_then h
    · rw [List.drop_zero]; exact bLeft_then h0

theorem laws_toIntS_ev (l : List Int) (hl : l.length ≤ 1048576000) : Ev (fun k => laws_toIntS.f k l) l := by
  simp only [laws_toIntS.f]
  refine ev_pos (by omega) (ev_pos (by omega) ?_)
  refine ev_loop (fun k (s : List Int) i => laws_toIntS.l0 k l s i) l (fun _ _ => l) (fun s i => s.length = l.length ∧ s.take i = l.take i) ?_ ?_ _ 0 (by omega) ⟨by simp, by simp⟩
  · rintro s ⟨h1, h2⟩
    refine ev_unfold (fun k => rfl) ?_
    simp only [laws_toIntS.l0]
    refine ev_neg (by omega) (ev_ret ?_)
    rw [List.take_of_length_le (by omega), List.take_of_length_le (by omega)] at h2
    exact h2
  · rintro s i hi ⟨h1, h2⟩ ih
    refine ev_unfold (fun k => rfl) ?_
    simp only [laws_toIntS.l0]
    refine ev_pos (by omega) (ev_pos (by omega) (ev_pos (by omega) ?_))
    rw [w64next i (by omega), rd_at l i hi, Int.toNat_natCast]
    refine ih _ ⟨by simpa using h1, ?_⟩
    apply List.ext_getElem
    · simp; omega
    · intro j hj1 hj2
      simp at hj1 hj2
      simp only [List.getElem_take, List.getElem_set]
      by_cases hij : i = j
      · subst hij; simp
      · rw [if_neg hij]
        have h3 : (s.take i)[j]'(by simp; omega) = (l.take i)[j]'(by simp; omega) := by simp only [h2]
        simpa using h3

theorem laws_toIntSS_ev (l : List (List Int)) (hl : l.length ≤ 1048576000) (hr : ∀ r ∈ l, r.length ≤ 1048576000) : Ev (fun k => laws_toIntSS.f k l) l := by
  simp only [laws_toIntSS.f]
  refine ev_pos (by omega) (ev_pos (by omega) ?_)
  refine ev_loopN (fun k (s : List (List Int)) i => laws_toIntSS.l0 k l s i) l.length (fun _ _ => l) (fun s i => s.length = l.length ∧ s.take i = l.take i) ?_ ?_ _ 0 (by omega) ⟨by simp, by simp⟩
  · rintro s ⟨h1, h2⟩
    refine ev_unfold (fun k => rfl) ?_
    simp only [laws_toIntSS.l0]
    refine ev_neg (by omega) (ev_ret ?_)
    rw [List.take_of_length_le (by omega), List.take_of_length_le (by omega)] at h2
    exact h2
  · rintro s i hi ⟨h1, h2⟩ ih
    refine ev_unfold (fun k => rfl) ?_
    simp only [laws_toIntSS.l0]
    rw [w64next i (by omega), rdss_at l i hi, Int.toNat_natCast]
    refine ev_pos (by omega) (ev_pos (by omega) (Ev.bind (laws_toIntS_ev _ (hr _ (List.getElem_mem hi))) (ev_pos (by omega) ?_)))
    refine ih _ ⟨by simpa using h1, ?_⟩
    apply List.ext_getElem
    · simp; omega
    · intro j hj1 hj2
      simp at hj1 hj2
      simp only [List.getElem_take, List.getElem_set]
      by_cases hij : i = j
      · subst hij; simp
      · rw [if_neg hij]
        have h3 : (s.take i)[j]'(by simp; omega) = (l.take i)[j]'(by simp; omega) := by simp only [h2]
        simpa using h3

theorem laws_eqIntS_ev (a b : List Int) (ha : a.length ≤ 1048576000) : Ev (fun k => laws_eqIntS.f k a b) (decide (a = b)) := by
  simp only [laws_eqIntS.f]
  refine ev_ite (fun hlen => ?_) (fun hne => ev_ret ?_)
  · have hlen' : a.length = b.length := by omega
    have h := ev_loop (fun k (_ : Unit) i => laws_eqIntS.l0 k a b i) a (fun _ r => decide (r = b.drop (a.length - r.length))) (fun _ _ => True) ?_ ?_ () 0 (by omega) trivial
    · refine ev_done h ?_
      simp
    · rintro _ _
      refine ev_unfold (fun k => rfl) ?_
      simp only [laws_eqIntS.l0]
      refine ev_neg (by omega) (ev_ret ?_)
      rw [List.length_nil, Nat.sub_zero, hlen', drop_end]
      simp
    · rintro _ i hi _ ih
      refine ev_unfold (fun k => rfl) ?_
      simp only [laws_eqIntS.l0]
      refine ev_pos (by omega) (ev_pos (by omega) (ev_pos (by omega) ?_))
      rw [w64next i (by omega), rd_at a i hi, rd_at b i (by omega)]
      have e1 : a.length - (a[i] :: a.drop (i + 1)).length = i := by simp; omega
      have e2 : a.length - (a.drop (i + 1)).length = i + 1 := by simp; omega
      refine ev_ite (fun heq => ?_) (fun hne => ev_ret ?_)
      · refine ev_done (ih () trivial) ?_
        rw [e1, e2, drop_at b i (by omega), heq]
        exact decide_eq_decide.2 ⟨fun h => by rw [h], fun h => (List.cons.inj h).2⟩
      · rw [e1, drop_at b i (by omega)]
        exact (decide_eq_false (fun h => hne (List.cons.inj h).1)).symm
  · have : a ≠ b := by rintro rfl; exact hne rfl
    simp [this]

theorem laws_eqIntSS_ev (a b : List (List Int)) (ha : a.length ≤ 1048576000) (hr : ∀ r ∈ a, r.length ≤ 1048576000) : Ev (fun k => laws_eqIntSS.f k a b) (decide (a = b)) := by
  simp only [laws_eqIntSS.f]
  refine ev_ite (fun hlen => ?_) (fun hne => ev_ret ?_)
  · have hlen' : a.length = b.length := by omega
    refine ev_done (ev_loopN (fun k (_ : Unit) i => laws_eqIntSS.l0 k a b i) a.length (fun _ i => decide (a.drop i = b.drop i)) (fun _ _ => True) ?_ ?_ () 0 (by omega) trivial) (by simp)
    · rintro _ _
      refine ev_unfold (fun k => rfl) ?_
      simp only [laws_eqIntSS.l0]
      refine ev_neg (by omega) (ev_ret ?_)
      rw [drop_end, hlen', drop_end]; simp
    · rintro _ i hi _ ih
      refine ev_unfold (fun k => rfl) ?_
      simp only [laws_eqIntSS.l0]
      rw [w64next i (by omega), rdss_at a i hi, rdss_at b i (by omega), drop_at a i hi, drop_at b i (by omega)]
      refine ev_pos (by omega) (ev_pos (by omega) (ev_pos (by omega) (Ev.bind (laws_eqIntS_ev _ _ (hr _ (List.getElem_mem hi))) ?_)))
      refine ev_ite (fun heq => ?_) (fun hne => ev_ret ?_)
      · refine ev_done (ih () trivial) ?_
        have heq' := of_decide_eq_true heq
        exact decide_eq_decide.2 ⟨fun h => by rw [h, heq'], fun h => (List.cons.inj h).2⟩
      · exact (decide_eq_false (fun h => hne (decide_eq_true (List.cons.inj h).1))).symm
  · have : a ≠ b := by rintro rfl; exact hne rfl
    simp [this]

theorem spec_l1In_eq (n a b : Int) : spec_l1In.f n a b = some (inR n a b) := by
  unfold spec_l1In.f inR
  by_cases h : a ≤ n
  · rw [if_pos (by omega)]; simp [h]
  · rw [if_neg (by omega)]; simp [h]

theorem spec_IsCard_eq (c : Int) : spec_IsCard.f c = some (isCard c) := by
  unfold spec_IsCard.f isCard
  rw [spec_l1In_eq]; rfl

theorem spec_HasCard_ev (l : List Int) (c : Int) (hl : l.length ≤ 1048576000) : Ev (fun k => spec_HasCard.f k l c) (hasCard l c) := by
  simp only [spec_HasCard.f]
  refine ev_done (ev_loop (fun k (_ : Unit) i => spec_HasCard.l0 k l c i) l (fun _ r => hasCard r c) (fun _ _ => True) ?_ ?_ () 0 (by omega) trivial) rfl
  · rintro s _
    refine ev_unfold (fun k => rfl) ?_
    simp only [spec_HasCard.l0]
    exact ev_neg (by omega) (ev_ret (by simp [hasCard]))
  · rintro s i hi _ ih
    refine ev_unfold (fun k => rfl) ?_
    simp only [spec_HasCard.l0]
    rw [w64next i (by omega), rd_at l i hi]
    refine ev_pos (by omega) (ev_pos (by omega) (ev_ite (fun h => ev_ret ?_) (fun h => ev_done (ih () trivial) ?_)))
    · simp [hasCard, h]
    · have h2 : ¬ c = l[i] := fun e => h e.symm
      simp only [hasCard, List.mem_cons]
      exact decide_eq_decide.2 ⟨fun h => .inr h, fun h => h.resolve_left h2⟩

theorem spec_IsHand_ev (l : List Int) (hl : l.length ≤ 1048576000) : Ev (fun k => spec_IsHand.f k l) (isHand l) := by
  simp only [spec_IsHand.f]
  refine ev_done (ev_loopN (fun k (_ : Unit) i => spec_IsHand.l0 k l i) l.length (fun _ i => handF (l.take i) (l.drop i)) (fun _ _ => True) ?_ ?_ () 0 (by omega) trivial) (by simp [isHand])
  · rintro s _
    refine ev_unfold (fun k => rfl) ?_
    simp only [spec_IsHand.l0]
    refine ev_neg (by omega) (ev_ret ?_)
    rw [drop_end]; rfl
  · rintro s i hi _ ih
    have ht : (l.take i).length ≤ 1048576000 := by simp; omega
    refine ev_unfold (fun k => rfl) ?_
    simp only [spec_IsHand.l0]
    rw [w64next i (by omega), rd_at l i hi, drop_at l i hi, Int.toNat_natCast]
    unfold handF
    refine ev_pos (by omega) (ev_pos (by omega) (ev_eq (spec_IsCard_eq _) (ev_ite (fun h => ?_) (fun h => ev_ret ?_))))
    · refine ev_pos (by omega) (Ev.bind (spec_HasCard_ev _ _ ht) (ev_ite (fun h2 => ev_ret ?_) (fun h2 => ev_done (ih () trivial) ?_)))
      · rw [h2]; simp
      · rw [Bool.not_eq_true] at h2
        rw [h, h2, take_at l i hi]; simp
    · rw [Bool.not_eq_true] at h
      rw [h]; simp

theorem spec_SuitOf_eq (c : Int) : spec_SuitOf.f c = some (suitOf c) := by
  unfold spec_SuitOf.f suitOf
  rw [spec_IsCard_eq]
  simp only [Option.bind_some]
  by_cases h : isCard c = true
  · have h2 := (isCard_iff c).1 h
    rw [if_pos h, if_pos h, Int.tdiv_eq_ediv_of_nonneg h2.1, w64 _ (by omega)]
  · rw [if_neg h, if_neg h]

theorem spec_MayPlay_ev (h t : List Int) (c : Int) (hl : h.length ≤ 1048576000) (tl : t.length ≤ 1048576000) : Ev (fun k => spec_MayPlay.f k h t c) (mayPlay h t c) := by
  have l0 : 0 < t.length → Ev (fun k => spec_MayPlay.l0 k h t 0) (h.all fun x => !decide (suitOf x = suitOf (rd t 0))) := by
    intro ht
    refine ev_done (ev_loop (fun k (_ : Unit) i => spec_MayPlay.l0 k h t i) h (fun _ r => r.all fun x => !decide (suitOf x = suitOf (rd t 0))) (fun _ _ => True) ?_ ?_ () 0 (by omega) trivial) rfl
    · rintro s _
      refine ev_unfold (fun k => rfl) ?_
      simp only [spec_MayPlay.l0]
      exact ev_neg (by omega) (ev_ret rfl)
    · rintro s i hi _ ih
      refine ev_unfold (fun k => rfl) ?_
      simp only [spec_MayPlay.l0, spec_SuitOf_eq, Option.bind_some]
      rw [w64next i (by omega), rd_at h i hi, List.all_cons]
      refine ev_pos (by omega) (ev_pos (by omega) (ev_pos (by omega) ?_))
      refine ev_ite (fun h2 => ev_ret ?_) (fun h2 => ev_done (ih () trivial) ?_)
      · rw [show decide (suitOf h[i] = suitOf (rd t 0)) = true from decide_eq_true h2]; rfl
      · rw [show decide (suitOf h[i] = suitOf (rd t 0)) = false from decide_eq_false h2]; rfl
  have j1 : ∀ b, (b = false → 0 < t.length) → Ev (fun k => spec_MayPlay.j1 k h t b) (b || h.all fun x => !decide (suitOf x = suitOf (rd t 0))) := by
    intro b hb
    refine ev_unfold (fun k => rfl) ?_
    simp only [spec_MayPlay.j1]
    refine ev_ite (fun h2 => ?_) (fun h2 => ?_)
    · rw [h2]; exact Ev.now _
    · rw [Bool.not_eq_true] at h2; rw [h2]; exact l0 (hb h2)
  have j0 : ∀ b, Ev (fun k => spec_MayPlay.j0 k h t c b) (!b && ((decide (t.length = 0) || decide (suitOf c = suitOf (rd t 0))) || h.all fun x => !decide (suitOf x = suitOf (rd t 0)))) := by
    intro b
    refine ev_unfold (fun k => rfl) ?_
    simp only [spec_MayPlay.j0, spec_SuitOf_eq, Option.bind_some]
    refine ev_ite (fun h2 => ?_) (fun h2 => ?_)
    · rw [h2]; exact Ev.now _
    · rw [Bool.not_eq_true] at h2; rw [h2]
      refine ev_ite (fun h3 => ?_) (fun h3 => ?_)
      · refine ev_done (j1 true (fun z => by cases z)) ?_
        rw [show decide (t.length = 0) = true from decide_eq_true (by omega)]; rfl
      · refine ev_pos (by omega) (ev_done (j1 _ (fun _ => by omega)) ?_)
        rw [show decide (t.length = 0) = false from decide_eq_false (by omega)]
        by_cases h4 : suitOf c = suitOf (rd t 0)
        · simp [h4]
        · simp [h4]
  simp only [spec_MayPlay.f]
  unfold mayPlay
  refine Ev.bind (spec_IsHand_ev h hl) (ev_ite (fun h2 => ?_) (fun h2 => ev_done (j0 _) ?_))
  · refine Ev.bind (spec_HasCard_ev h c hl) (ev_done (j0 _) ?_)
    rw [h2]; simp
  · rw [Bool.not_eq_true] at h2; rw [h2]; rfl

theorem spec_IsFollowed_ev (h : List (List Int)) (t : List Int) (a : Int) (hl : h.length ≤ 1048576000) (hr : ∀ r ∈ h, r.length ≤ 1048576000) (tl : t.length ≤ 1048576000) : Ev (fun k => spec_IsFollowed.f k h t a) (isFollowed h t a) := by
  have j0 : ∀ b, (b = false → h.length = t.length ∧ 0 ≤ a ∧ a ≤ (h.length : Int) - 1) → Ev (fun k => spec_IsFollowed.j0 k h t a b) (!b && followF h a [] 0 t) := by
    intro b hb
    refine ev_unfold (fun k => rfl) ?_
    simp only [spec_IsFollowed.j0]
    refine ev_ite (fun h2 => ?_) (fun h2 => ?_)
    · rw [h2]; exact Ev.now _
    · rw [Bool.not_eq_true] at h2; rw [h2]
      obtain ⟨e1, e2, e3⟩ := hb h2
      refine ev_done (ev_loopN (fun k (_ : Unit) i => spec_IsFollowed.l0 k h t a i) t.length (fun _ i => followF h a (t.take i) i (t.drop i)) (fun _ _ => True) ?_ ?_ () 0 (by omega) trivial) (by simp)
      · rintro s _
        refine ev_unfold (fun k => rfl) ?_
        simp only [spec_IsFollowed.l0]
        refine ev_neg (by omega) (ev_ret ?_)
        rw [drop_end]; rfl
      · rintro s i hi _ ih
        refine ev_unfold (fun k => rfl) ?_
        simp only [spec_IsFollowed.l0]
        rw [w64next i (by omega), rd_at t i hi, drop_at t i hi, w64 (a + (i : Int)) (by omega), Int.toNat_natCast]
        have hm : 0 ≤ (a + (i : Int)).tmod (h.length : Int) ∧ (a + (i : Int)).tmod (h.length : Int) < (h.length : Int) := by
          rw [Int.tmod_eq_emod_of_nonneg (by omega)]
          exact ⟨Int.emod_nonneg _ (by omega), Int.emod_lt_of_pos _ (by omega)⟩
        have hrow : (rd_L1 h ((a + (i : Int)).tmod (h.length : Int))).length ≤ 1048576000 := lineAt_length hr _
        have ht : (t.take i).length ≤ 1048576000 := by simp; omega
        refine ev_pos (by omega) (ev_neg (by omega) (ev_pos hm.1 (ev_pos hm.2 (ev_pos (by omega) (ev_pos (by omega) (Ev.bind (spec_MayPlay_ev _ _ _ hrow ht) ?_))))))
        unfold followF
        have er : rd_L1 h ((a + (i : Int)).tmod (h.length : Int)) = lineAt h ((a + (i : Int)).tmod (h.length : Int)) := rfl
        rw [er, ← take_at t i hi, show (i : Int) + 1 = ((i + 1 : Nat) : Int) by omega]
        refine ev_ite (fun h3 => ev_done (ih () trivial) ?_) (fun h3 => ev_ret ?_)
        · rw [h3, Bool.true_and]
        · rw [Bool.not_eq_true] at h3; rw [h3, Bool.false_and]
  simp only [spec_IsFollowed.f, spec_l1In_eq, Option.bind_some]
  unfold isFollowed
  refine ev_ite (fun h2 => ?_) (fun h2 => ev_done (j0 _ (fun z => by cases z)) ?_)
  · rw [w64 ((h.length : Int) - 1) (by omega)]
    refine ev_done (j0 _ (fun z => ?_)) ?_
    · have := (inR_iff _ _ _).1 (by simpa using z); exact ⟨by omega, this⟩
    · rw [show decide (h.length = t.length) = true from decide_eq_true (by omega)]; simp
  · rw [show decide (h.length = t.length) = false from decide_eq_false (by omega)]; rfl

theorem impl_InRange_eq (n a b : Int) : impl_InRange.f n a b = some (inR n a b) := by
  unfold impl_InRange.f inR
  by_cases h : a ≤ n
  · rw [if_pos (by omega)]; simp [h]
  · rw [if_neg (by omega)]; simp [h]

theorem impl_PlaceOf_ev (l : List Int) (c : Int) (hl : l.length ≤ 1048576000) : Ev (fun k => impl_PlaceOf.f k l c) (placeOf l c) := by
  simp only [impl_PlaceOf.f]
  refine ev_loopN (fun k (_ : Unit) i => impl_PlaceOf.l0 k c l (l.length : Int) i) l.length (fun _ i => placeF c i (l.drop i)) (fun _ _ => True) ?_ ?_ () 0 (by omega) trivial
  · rintro s _
    refine ev_unfold (fun k => rfl) ?_
    simp only [impl_PlaceOf.l0]
    refine ev_neg (by omega) (ev_ret ?_)
    rw [drop_end]; rfl
  · rintro s i hi _ ih
    refine ev_unfold (fun k => rfl) ?_
    simp only [impl_PlaceOf.l0]
    refine ev_pos (by omega) (ev_pos (by omega) (ev_pos (by omega) ?_))
    rw [w64next i (by omega), rd_at l i hi, drop_at l i hi]
    unfold placeF
    refine ev_ite (fun h => ev_ret ?_) (fun h => ev_done (ih () trivial) ?_)
    · rw [if_pos h]
    · rw [if_neg h]; congr 1

theorem impl_HasCard_ev (l : List Int) (c : Int) (hl : l.length ≤ 1048576000) : Ev (fun k => impl_HasCard.f k l c) (hasCard l c) := by
  simp only [impl_HasCard.f]
  refine Ev.bind (impl_PlaceOf_ev l c hl) (ev_ret ?_)
  unfold hasCard
  exact decide_eq_decide.2 (placeOf_nonneg l c)

theorem impl_IsCard_eq (c : Int) : impl_IsCard.f c = some (isCard c) := by
  unfold impl_IsCard.f isCard
  rw [impl_InRange_eq]; rfl

theorem impl_IsHand_ev (l : List Int) (hl : l.length ≤ 1048576000) : Ev (fun k => impl_IsHand.f k l) (isHand l) := by
  simp only [impl_IsHand.f]
  refine ev_done (ev_loopN (fun k (s : List Bool) i => impl_IsHand.l0 k l s i) l.length (fun _ i => handF (l.take i) (l.drop i)) (fun s i => s.length = 52 ∧ ∀ c : Nat, c < 52 → s.getD c false = decide ((c : Int) ∈ l.take i)) ?_ ?_ _ 0 (by omega) ⟨by simp, fun c hc => by rw [List.getD_eq_getElem?_getD, List.getElem?_replicate, if_pos hc]; simp⟩) (by simp [isHand])
  · rintro s _
    refine ev_unfold (fun k => rfl) ?_
    simp only [impl_IsHand.l0]
    refine ev_neg (by omega) (ev_ret ?_)
    rw [drop_end]; rfl
  · rintro s i hi ⟨h52, hs⟩ ih
    refine ev_unfold (fun k => rfl) ?_
    simp only [impl_IsHand.l0]
    rw [w64next i (by omega), rd_at l i hi, drop_at l i hi]
    unfold handF
    refine ev_pos (by omega) (ev_pos (by omega) (ev_eq (impl_IsCard_eq _) (ev_ite (fun h => ?_) (fun h => ev_ret ?_))))
    · have hc := (isCard_iff _).1 h
      have he := hs l[i].toNat (by omega)
      rw [show ((l[i].toNat : Nat) : Int) = l[i] by omega] at he
      refine ev_pos (by omega) (ev_pos (by omega) (ev_ite (fun h2 => ev_ret ?_) (fun h2 => ev_done (ih _ ⟨by simpa using h52, fun c hc2 => ?_⟩) ?_)))
      · rw [h2] at he
        unfold hasCard
        rw [← he]; simp
      · rw [take_at l i hi, List.getD_eq_getElem?_getD, List.getElem?_set]
        have h3 := hs c hc2
        rw [List.getD_eq_getElem?_getD] at h3
        by_cases hci : l[i].toNat = c
        · rw [if_pos hci, if_pos (by omega)]
          have : (c : Int) = l[i] := by omega
          exact (decide_eq_true (List.mem_append.2 (.inr (by rw [this]; exact List.mem_singleton.2 rfl)))).symm
        · rw [if_neg hci, h3]
          have : ¬ (c : Int) = l[i] := by omega
          exact decide_eq_decide.2 ⟨fun h => List.mem_append.2 (.inl h), fun h => (List.mem_append.1 h).resolve_right (fun h => this (List.mem_singleton.1 h))⟩
      · rw [Bool.not_eq_true] at h2
        rw [h2] at he
        unfold hasCard
        rw [h, ← he, take_at l i hi]; simp
    · rw [Bool.not_eq_true] at h
      rw [h]; simp

theorem impl_SuitOf_eq (c : Int) : impl_SuitOf.f c = some (suitOf c) := by
  unfold impl_SuitOf.f suitOf
  rw [impl_IsCard_eq]
  simp only [Option.bind_some]
  by_cases h : isCard c = true
  · have h2 := (isCard_iff c).1 h
    rw [if_pos h, if_pos h, Int.tdiv_eq_ediv_of_nonneg h2.1, w64 _ (by omega)]
  · rw [if_neg h, if_neg h]

theorem impl_MayPlay_ev (h t : List Int) (c : Int) (hl : h.length ≤ 1048576000) (tl : t.length ≤ 1048576000) : Ev (fun k => impl_MayPlay.f k h t c) (mayPlay h t c) := by
  have l0 : 0 < t.length → Ev (fun k => impl_MayPlay.l0 k t h (h.length : Int) 0) (h.all fun x => !decide (suitOf x = suitOf (rd t 0))) := by
    intro ht
    refine ev_done (ev_loop (fun k (_ : Unit) i => impl_MayPlay.l0 k t h (h.length : Int) i) h (fun _ r => r.all fun x => !decide (suitOf x = suitOf (rd t 0))) (fun _ _ => True) ?_ ?_ () 0 (by omega) trivial) rfl
    · rintro s _
      refine ev_unfold (fun k => rfl) ?_
      simp only [impl_MayPlay.l0]
      exact ev_neg (by omega) (ev_ret rfl)
    · rintro s i hi _ ih
      refine ev_unfold (fun k => rfl) ?_
      simp only [impl_MayPlay.l0, impl_SuitOf_eq, Option.bind_some]
      rw [w64next i (by omega), rd_at h i hi, List.all_cons]
      refine ev_pos (by omega) (ev_pos (by omega) (ev_pos (by omega) (ev_pos (by omega) ?_)))
      refine ev_ite (fun h2 => ev_ret ?_) (fun h2 => ev_done (ih () trivial) ?_)
      · rw [show decide (suitOf h[i] = suitOf (rd t 0)) = true from decide_eq_true h2]; rfl
      · rw [show decide (suitOf h[i] = suitOf (rd t 0)) = false from decide_eq_false h2]; rfl
  have j1 : ∀ b, (b = false → 0 < t.length) → Ev (fun k => impl_MayPlay.j1 k h t b) (b || h.all fun x => !decide (suitOf x = suitOf (rd t 0))) := by
    intro b hb
    refine ev_unfold (fun k => rfl) ?_
    simp only [impl_MayPlay.j1]
    refine ev_ite (fun h2 => ?_) (fun h2 => ?_)
    · rw [h2]; exact Ev.now _
    · rw [Bool.not_eq_true] at h2; rw [h2]; exact l0 (hb h2)
  have j0 : ∀ b, Ev (fun k => impl_MayPlay.j0 k h t c b) (!b && ((decide (t.length = 0) || decide (suitOf c = suitOf (rd t 0))) || h.all fun x => !decide (suitOf x = suitOf (rd t 0)))) := by
    intro b
    refine ev_unfold (fun k => rfl) ?_
    simp only [impl_MayPlay.j0, impl_SuitOf_eq, Option.bind_some]
    refine ev_ite (fun h2 => ?_) (fun h2 => ?_)
    · rw [h2]; exact Ev.now _
    · rw [Bool.not_eq_true] at h2; rw [h2]
      refine ev_ite (fun h3 => ?_) (fun h3 => ?_)
      · refine ev_done (j1 true (fun z => by cases z)) ?_
        rw [show decide (t.length = 0) = true from decide_eq_true (by omega)]; rfl
      · refine ev_pos (by omega) (ev_done (j1 _ (fun _ => by omega)) ?_)
        rw [show decide (t.length = 0) = false from decide_eq_false (by omega)]
        by_cases h4 : suitOf c = suitOf (rd t 0)
        · simp [h4]
        · simp [h4]
  simp only [impl_MayPlay.f]
  unfold mayPlay
  refine Ev.bind (impl_IsHand_ev h hl) (ev_ite (fun h2 => ?_) (fun h2 => ev_done (j0 _) ?_))
  · refine Ev.bind (impl_HasCard_ev h c hl) (ev_done (j0 _) ?_)
    rw [h2]; simp
  · rw [Bool.not_eq_true] at h2; rw [h2]; rfl

theorem impl_IsFollowed_ev (h : List (List Int)) (t : List Int) (a : Int) (hl : h.length ≤ 1048576000) (hr : ∀ r ∈ h, r.length ≤ 1048576000) (tl : t.length ≤ 1048576000) : Ev (fun k => impl_IsFollowed.f k h t a) (isFollowed h t a) := by
  have j0 : ∀ b, (b = false → h.length = t.length ∧ 0 ≤ a ∧ a ≤ (h.length : Int) - 1) → Ev (fun k => impl_IsFollowed.j0 k h t a b) (!b && followF h a [] 0 t) := by
    intro b hb
    refine ev_unfold (fun k => rfl) ?_
    simp only [impl_IsFollowed.j0]
    refine ev_ite (fun h2 => ?_) (fun h2 => ?_)
    · rw [h2]; exact Ev.now _
    · rw [Bool.not_eq_true] at h2; rw [h2]
      obtain ⟨e1, e2, e3⟩ := hb h2
      refine ev_done (ev_loopN (fun k (_ : Unit) i => impl_IsFollowed.l0 k h t a t (t.length : Int) i) t.length (fun _ i => followF h a (t.take i) i (t.drop i)) (fun _ _ => True) ?_ ?_ () 0 (by omega) trivial) (by simp)
      · rintro s _
        refine ev_unfold (fun k => rfl) ?_
        simp only [impl_IsFollowed.l0]
        refine ev_neg (by omega) (ev_ret ?_)
        rw [drop_end]; rfl
      · rintro s i hi _ ih
        refine ev_unfold (fun k => rfl) ?_
        simp only [impl_IsFollowed.l0]
        rw [w64next i (by omega), rd_at t i hi, drop_at t i hi, w64 (a + (i : Int)) (by omega), Int.toNat_natCast]
        have hm : 0 ≤ (a + (i : Int)).tmod (h.length : Int) ∧ (a + (i : Int)).tmod (h.length : Int) < (h.length : Int) := by
          rw [Int.tmod_eq_emod_of_nonneg (by omega)]
          exact ⟨Int.emod_nonneg _ (by omega), Int.emod_lt_of_pos _ (by omega)⟩
        have hrow : (rd_L1 h ((a + (i : Int)).tmod (h.length : Int))).length ≤ 1048576000 := lineAt_length hr _
        have ht : (t.take i).length ≤ 1048576000 := by simp; omega
        refine ev_pos (by omega) (ev_pos (by omega) (ev_pos (by omega) (ev_neg (by omega) (ev_pos hm.1 (ev_pos hm.2 (ev_pos (by omega) (Ev.bind (impl_MayPlay_ev _ _ _ hrow ht) ?_)))))))
        unfold followF
        have er : rd_L1 h ((a + (i : Int)).tmod (h.length : Int)) = lineAt h ((a + (i : Int)).tmod (h.length : Int)) := rfl
        rw [er, ← take_at t i hi, show (i : Int) + 1 = ((i + 1 : Nat) : Int) by omega]
        refine ev_ite (fun h3 => ev_done (ih () trivial) ?_) (fun h3 => ev_ret ?_)
        · rw [h3, Bool.true_and]
        · rw [Bool.not_eq_true] at h3; rw [h3, Bool.false_and]
  simp only [impl_IsFollowed.f, impl_InRange_eq, Option.bind_some]
  unfold isFollowed
  refine ev_ite (fun h2 => ?_) (fun h2 => ev_done (j0 _ (fun z => by cases z)) ?_)
  · rw [w64 ((h.length : Int) - 1) (by omega)]
    refine ev_done (j0 _ (fun z => ?_)) ?_
    · have := (inR_iff _ _ _).1 (by simpa using z); exact ⟨by omega, this⟩
    · rw [show decide (h.length = t.length) = true from decide_eq_true (by omega)]; simp
  · rw [show decide (h.length = t.length) = false from decide_eq_false (by omega)]; rfl

theorem FnExactIsFollowed : ∀ (h : List (List Int)) (t : List Int) (a : Int), h.length ≤ maxLen → (∀ r ∈ h, r.length ≤ maxLen) → (∀ r ∈ h, ∀ x ∈ r, (Lit.int .i64 x).wf = true) → t.length ≤ maxLen → (∀ x ∈ t, (Lit.int .i64 x).wf = true) → (Lit.int .i64 a).wf = true → ∃ k, laws_FnExactIsFollowed.f k h t a = some true := by
  intro h t a hl0 hr0 _ _ _ _
  refine Ev.rounds ?_
  simp only [laws_FnExactIsFollowed.f]
  refine ev_ite (fun _ => Ev.now _) (fun hc => ?_)
  refine Ev.bind (laws_szIntSS_ev h 1048576 (by omega) hl0 hr0) (ev_ite (fun _ => Ev.now _) (fun h1 => ?_))
  have h2 := (bLeft_some h1).1
  have hl : h.length ≤ 1048576000 := by omega
  have hr : ∀ r ∈ h, r.length ≤ 1048576000 := fun r hr => by have := len_le_total hr; omega
  have tl : t.length ≤ 1048576000 := by omega
  refine Ev.bind (laws_toIntSS_ev h hl hr) (Ev.bind (laws_toIntS_ev t tl) (Ev.bind (spec_IsFollowed_ev h t a hl hr tl) (Ev.bind (laws_toIntSS_ev h hl hr) (Ev.bind (laws_toIntS_ev t tl) (Ev.bind (impl_IsFollowed_ev h t a hl hr tl) (ev_neg (by simp) ?_))))))
  refine Ev.bind (laws_toIntSS_ev h hl hr) (Ev.bind (laws_eqIntSS_ev h h hl hr) (ev_pos (by simp) ?_))
  exact Ev.bind (laws_toIntS_ev t tl) (Ev.bind (laws_eqIntS_ev t t tl) (ev_pos (by simp) (Ev.now _)))

end Go.Proofs.Ytcegnlconafikaa.Pure
