/- In the given program FnExactWinnerOf answers true for every input, by what its functions compute; no condition. -/
import Derived.Test.YtjalkgjjjebdpaaQFnExactWinnerOfx3
import Derived.Test.YtjalkgjjjebdpaaLib
import Derived.Test.YtjalkgjjjebdpaaCards
import Derived.Test.YtjalkgjjjebdpaaCards2
import Derived.Test.YtjalkgjjjebdpaaCalls
import Derived.Test.YtjalkgjjjebdpaaHands
namespace Go.Proofs.Ytjalkgjjjebdpaa.Pure
open Go.RowKit Go.Proofs.Ytjalkgjjjebdpaa.QFnExactWinnerOf Go.Proofs.YtjalkgjjjebdpaaW.PrintWords Go.Proofs.YtjalkgjjjebdpaaW.PrintLast Go.Proofs.YtjalkgjjjebdpaaW.PrintMore Go.Proofs.Ytjalkgjjjebdpaa.Lib
set_option linter.unusedVariables false
set_option linter.unusedSimpArgs false

theorem laws_toIntS_ev (l : List Int) (hl : l.length ≤ 1048576000) : Ev (fun k => laws_toIntS.f k l) l := by
  simp only [laws_toIntS.f]
  refine ev_pos (by omega) (ev_pos (by omega) ?_)
  refine ev_loop (fun k (s : List Int) i => laws_toIntS.l0 k l s i) l (fun _ _ => l) (fun s i => s.length = l.length ∧ s.take i = l.take i) ?_ ?_ _ 0 (by omega) ⟨by simp, by simp⟩
  · rintro s ⟨h1, h2⟩
    refine ev_unfold (fun k => rfl) ?_
    simp only [laws_toIntS.l0]
    refine ev_neg (by omega) (ev_ret ?_)
    rw [List.take_of_length_le (by omega), List.take_of_length_le (by omega)] at h2
    exact h2
  · rintro s i hi ⟨h1, h2⟩ ih
    refine ev_unfold (fun k => rfl) ?_
    simp only [laws_toIntS.l0]
    refine ev_pos (by omega) (ev_pos (by omega) (ev_pos (by omega) ?_))
    rw [w64next i (by omega), rd_at l i hi, Int.toNat_natCast]
    refine ih _ ⟨by simpa using h1, ?_⟩
    apply List.ext_getElem
    · simp; omega
    · intro j hj1 hj2
      simp at hj1 hj2
      simp only [List.getElem_take, List.getElem_set]
      by_cases hij : i = j
      · subst hij; simp
      · rw [if_neg hij]
        have h3 : (s.take i)[j]'(by simp; omega) = (l.take i)[j]'(by simp; omega) := by simp only [h2]
        simpa using h3

theorem laws_eqIntS_ev (a b : List Int) (ha : a.length ≤ 1048576000) : Ev (fun k => laws_eqIntS.f k a b) (decide (a = b)) := by
  simp only [laws_eqIntS.f]
  refine ev_ite (fun hlen => ?_) (fun hne => ev_ret ?_)
  · have hlen' : a.length = b.length := by omega
    have h := ev_loop (fun k (_ : Unit) i => laws_eqIntS.l0 k a b i) a (fun _ r => decide (r = b.drop (a.length - r.length))) (fun _ _ => True) ?_ ?_ () 0 (by omega) trivial
    · refine ev_done h ?_
      simp
    · rintro _ _
      refine ev_unfold (fun k => rfl) ?_
      simp only [laws_eqIntS.l0]
      refine ev_neg (by omega) (ev_ret ?_)
      rw [List.length_nil, Nat.sub_zero, hlen', drop_end]
      simp
    · rintro _ i hi _ ih
      refine ev_unfold (fun k => rfl) ?_
      simp only [laws_eqIntS.l0]
      refine ev_pos (by omega) (ev_pos (by omega) (ev_pos (by omega) ?_))
      rw [w64next i (by omega), rd_at a i hi, rd_at b i (by omega)]
      have e1 : a.length - (a[i] :: a.drop (i + 1)).length = i := by simp; omega
      have e2 : a.length - (a.drop (i + 1)).length = i + 1 := by simp; omega
      refine ev_ite (fun heq => ?_) (fun hne => ev_ret ?_)
      · refine ev_done (ih () trivial) ?_
        rw [e1, e2, drop_at b i (by omega), heq]
        exact decide_eq_decide.2 ⟨fun h => by rw [h], fun h => (List.cons.inj h).2⟩
      · rw [e1, drop_at b i (by omega)]
        exact (decide_eq_false (fun h => hne (List.cons.inj h).1)).symm
  · have : a ≠ b := by rintro rfl; exact hne rfl
    simp [this]

theorem spec_l1In_eq (n a b : Int) : spec_l1In.f n a b = some (inR n a b) := by
  unfold spec_l1In.f inR
  by_cases h : a ≤ n
  · rw [if_pos (by omega)]; simp [h]
  · rw [if_neg (by omega)]; simp [h]

theorem spec_IsCard_eq (c : Int) : spec_IsCard.f c = some (isCard c) := by
  unfold spec_IsCard.f isCard
  rw [spec_l1In_eq]; rfl

theorem spec_HasCard_ev (l : List Int) (c : Int) (hl : l.length ≤ 1048576000) : Ev (fun k => spec_HasCard.f k l c) (hasCard l c) := by
  simp only [spec_HasCard.f]
  refine ev_done (ev_loop (fun k (_ : Unit) i => spec_HasCard.l0 k l c i) l (fun _ r => hasCard r c) (fun _ _ => True) ?_ ?_ () 0 (by omega) trivial) rfl
  · rintro s _
    refine ev_unfold (fun k => rfl) ?_
    simp only [spec_HasCard.l0]
    exact ev_neg (by omega) (ev_ret (by simp [hasCard]))
  · rintro s i hi _ ih
    refine ev_unfold (fun k => rfl) ?_
    simp only [spec_HasCard.l0]
    rw [w64next i (by omega), rd_at l i hi]
    refine ev_pos (by omega) (ev_pos (by omega) (ev_ite (fun h => ev_ret ?_) (fun h => ev_done (ih () trivial) ?_)))
    · simp [hasCard, h]
    · have h2 : ¬ c = l[i] := fun e => h e.symm
      simp only [hasCard, List.mem_cons]
      exact decide_eq_decide.2 ⟨fun h => .inr h, fun h => h.resolve_left h2⟩

theorem spec_IsHand_ev (l : List Int) (hl : l.length ≤ 1048576000) : Ev (fun k => spec_IsHand.f k l) (isHand l) := by
  simp only [spec_IsHand.f]
  refine ev_done (ev_loopN (fun k (_ : Unit) i => spec_IsHand.l0 k l i) l.length (fun _ i => handF (l.take i) (l.drop i)) (fun _ _ => True) ?_ ?_ () 0 (by omega) trivial) (by simp [isHand])
  · rintro s _
    refine ev_unfold (fun k => rfl) ?_
    simp only [spec_IsHand.l0]
    refine ev_neg (by omega) (ev_ret ?_)
    rw [drop_end]; rfl
  · rintro s i hi _ ih
    have ht : (l.take i).length ≤ 1048576000 := by simp; omega
    refine ev_unfold (fun k => rfl) ?_
    simp only [spec_IsHand.l0]
    rw [w64next i (by omega), rd_at l i hi, drop_at l i hi, Int.toNat_natCast]
    unfold handF
    refine ev_pos (by omega) (ev_pos (by omega) (ev_eq (spec_IsCard_eq _) (ev_ite (fun h => ?_) (fun h => ev_ret ?_))))
    · refine ev_pos (by omega) (Ev.bind (spec_HasCard_ev _ _ ht) (ev_ite (fun h2 => ev_ret ?_) (fun h2 => ev_done (ih () trivial) ?_)))
      · rw [h2]; simp
      · rw [Bool.not_eq_true] at h2
        rw [h, h2, take_at l i hi]; simp
    · rw [Bool.not_eq_true] at h
      rw [h]; simp

theorem spec_SuitOf_eq (c : Int) : spec_SuitOf.f c = some (suitOf c) := by
  unfold spec_SuitOf.f suitOf
  rw [spec_IsCard_eq]
  simp only [Option.bind_some]
  by_cases h : isCard c = true
  · have h2 := (isCard_iff c).1 h
    rw [if_pos h, if_pos h, Int.tdiv_eq_ediv_of_nonneg h2.1, w64 _ (by omega)]
  · rw [if_neg h, if_neg h]

theorem spec_Beats_ev (a b t : Int) : Ev (fun k => spec_Beats.f k a b t) (beats a b t) := by
  have key : ∀ x, Ev (fun k => spec_Beats.j0 k a b t x) (if x = true then false else if suitOf a = suitOf b then decide (a > b) else suitOf a == t) := by
    intro x
    refine ev_unfold (fun k => rfl) ?_
    simp only [spec_Beats.j0, spec_SuitOf_eq, Option.bind_some]
    cases x
    · refine ev_neg (by simp) ?_
      simp only [Bool.false_eq_true, if_false]
      refine ev_ite (fun h => ?_) (fun h => ?_)
      · rw [if_pos h]; exact Ev.now _
      · rw [if_neg h]; exact Ev.now _
    · exact ev_pos rfl (Ev.now _)
  simp only [spec_Beats.f, spec_IsCard_eq, Option.bind_some]
  unfold beats
  refine ev_ite (fun h => ?_) (fun h => ?_)
  · refine ev_done (key _) ?_
    rw [h]
    cases isCard b <;> simp
  · refine ev_done (key _) ?_
    simp [h]

theorem spec_WinnerOf_ev (l : List Int) (t : Int) (hl : l.length ≤ 1048576000) : Ev (fun k => spec_WinnerOf.f k l t) (winnerOf l t) := by
  have l0 : 0 < l.length → ∀ st : Nat, st ≤ l.length → Ev (fun k => (fun k (s : Int) (i : Int) => spec_WinnerOf.l0 k l t s i) k 0 (st : Int)) (winF l t 0 st (l.drop st)) := by
    intro hp st hst
    refine ev_done (ev_loopN (fun k (s : Int) i => spec_WinnerOf.l0 k l t s i) l.length (fun s i => winF l t s i (l.drop i)) (fun s i => 0 ≤ s ∧ s < l.length) ?_ ?_ 0 st hst ⟨by omega, by omega⟩) rfl
    · rintro s _
      refine ev_unfold (fun k => rfl) ?_
      simp only [spec_WinnerOf.l0]
      refine ev_neg (by omega) (ev_ret ?_)
      rw [drop_end]; rfl
    · rintro s i hi ⟨h1, h2⟩ ih
      refine ev_unfold (fun k => rfl) ?_
      simp only [spec_WinnerOf.l0]
      rw [w64next i (by omega), rd_at l i hi, drop_at l i hi]
      refine ev_pos (by omega) (ev_pos (by omega) (ev_pos (by omega) (ev_pos (by omega) (Ev.bind (spec_Beats_ev _ _ _) ?_))))
      unfold winF
      rw [show (i : Int) + 1 = ((i + 1 : Nat) : Int) by omega]
      refine ev_ite (fun h3 => ?_) (fun h3 => ?_)
      · rw [if_pos h3]; exact ih _ ⟨by omega, by omega⟩
      · rw [if_neg h3]; exact ih _ ⟨h1, h2⟩
  have j0 : ∀ b, (b = false → 0 < l.length) → Ev (fun k => spec_WinnerOf.j0 k l t b) (if b = true then -1 else winF l t 0 0 l) := by
    intro b hb
    refine ev_unfold (fun k => rfl) ?_
    simp only [spec_WinnerOf.j0]
    refine ev_ite (fun h2 => ?_) (fun h2 => ?_)
    · rw [if_pos h2]; exact Ev.now _
    · rw [if_neg h2]
      have hp := hb (by simpa using h2)
      refine ev_done (l0 hp 1 (by omega)) ?_
      obtain ⟨x, r, hx⟩ : ∃ x r, l = x :: r := by cases l with
        | nil => simp at hp
        | cons x r => exact ⟨x, r, rfl⟩
      have h0 : rd l 0 = x := by rw [hx]; rfl
      rw [hx, List.drop_succ_cons, List.drop_zero]
      conv => rhs; unfold winF
      rw [← hx, h0, beats_self]
      rfl
  simp only [spec_WinnerOf.f]
  unfold winnerOf
  refine ev_ite (fun h => ?_) (fun h => ?_)
  · rw [if_pos (by omega)]; exact ev_done (j0 true (fun z => by cases z)) rfl
  · rw [if_neg (by omega)]
    refine Ev.bind (spec_IsHand_ev l hl) (ev_done (j0 _ (fun _ => by omega)) ?_)
    cases isHand l <;> simp

theorem impl_InRange_eq (n a b : Int) : impl_InRange.f n a b = some (inR n a b) := by
  unfold impl_InRange.f inR
  by_cases h : a ≤ n
  · rw [if_pos (by omega)]; simp [h]
  · rw [if_neg (by omega)]; simp [h]

theorem impl_IsCard_eq (c : Int) : impl_IsCard.f c = some (isCard c) := by
  unfold impl_IsCard.f isCard
  rw [impl_InRange_eq]; rfl

theorem impl_IsHand_ev (l : List Int) (hl : l.length ≤ 1048576000) : Ev (fun k => impl_IsHand.f k l) (isHand l) := by
  simp only [impl_IsHand.f]
  refine ev_done (ev_loopN (fun k (s : List Bool) i => impl_IsHand.l0 k l s i) l.length (fun _ i => handF (l.take i) (l.drop i)) (fun s i => s.length = 52 ∧ ∀ c : Nat, c < 52 → s.getD c false = decide ((c : Int) ∈ l.take i)) ?_ ?_ _ 0 (by omega) ⟨by simp, fun c hc => by rw [List.getD_eq_getElem?_getD, List.getElem?_replicate, if_pos hc]; simp⟩) (by simp [isHand])
  · rintro s _
    refine ev_unfold (fun k => rfl) ?_
    simp only [impl_IsHand.l0]
    refine ev_neg (by omega) (ev_ret ?_)
    rw [drop_end]; rfl
  · rintro s i hi ⟨h52, hs⟩ ih
    refine ev_unfold (fun k => rfl) ?_
    simp only [impl_IsHand.l0]
    rw [w64next i (by omega), rd_at l i hi, drop_at l i hi]
    unfold handF
    refine ev_pos (by omega) (ev_pos (by omega) (ev_eq (impl_IsCard_eq _) (ev_ite (fun h => ?_) (fun h => ev_ret ?_))))
    · have hc := (isCard_iff _).1 h
      have he := hs l[i].toNat (by omega)
      rw [show ((l[i].toNat : Nat) : Int) = l[i] by omega] at he
      refine ev_pos (by omega) (ev_pos (by omega) (ev_ite (fun h2 => ev_ret ?_) (fun h2 => ev_done (ih _ ⟨by simpa using h52, fun c hc2 => ?_⟩) ?_)))
      · rw [h2] at he
        unfold hasCard
        rw [← he]; simp
      · rw [take_at l i hi, List.getD_eq_getElem?_getD, List.getElem?_set]
        have h3 := hs c hc2
        rw [List.getD_eq_getElem?_getD] at h3
        by_cases hci : l[i].toNat = c
        · rw [if_pos hci, if_pos (by omega)]
          have : (c : Int) = l[i] := by omega
          exact (decide_eq_true (List.mem_append.2 (.inr (by rw [this]; exact List.mem_singleton.2 rfl)))).symm
        · rw [if_neg hci, h3]
          have : ¬ (c : Int) = l[i] := by omega
          exact decide_eq_decide.2 ⟨fun h => List.mem_append.2 (.inl h), fun h => (List.mem_append.1 h).resolve_right (fun h => this (List.mem_singleton.1 h))⟩
      · rw [Bool.not_eq_true] at h2
        rw [h2] at he
        unfold hasCard
        rw [h, ← he, take_at l i hi]; simp
    · rw [Bool.not_eq_true] at h
      rw [h]; simp

theorem impl_SuitOf_eq (c : Int) : impl_SuitOf.f c = some (suitOf c) := by
  unfold impl_SuitOf.f suitOf
  rw [impl_IsCard_eq]
  simp only [Option.bind_some]
  by_cases h : isCard c = true
  · have h2 := (isCard_iff c).1 h
    rw [if_pos h, if_pos h, Int.tdiv_eq_ediv_of_nonneg h2.1, w64 _ (by omega)]
  · rw [if_neg h, if_neg h]

theorem impl_RankOf_eq (c : Int) : impl_RankOf.f c = some (rankOf c) := by
  unfold impl_RankOf.f rankOf
  rw [impl_IsCard_eq]
  simp only [Option.bind_some]
  by_cases h : isCard c = true
  · rw [if_pos h, if_pos h, Int.tmod_eq_emod_of_nonneg ((isCard_iff c).1 h).1]
  · rw [if_neg h, if_neg h]

theorem impl_Beats_ev (a b t : Int) : Ev (fun k => impl_Beats.f k a b t) (beats a b t) := by
  have key : ∀ x, Ev (fun k => impl_Beats.j0 k a b t x) (if x = true then false else if suitOf a = suitOf b then decide (rankOf a > rankOf b) else suitOf a == t) := by
    intro x
    refine ev_unfold (fun k => rfl) ?_
    simp only [impl_Beats.j0, impl_SuitOf_eq, impl_RankOf_eq, Option.bind_some]
    cases x
    · refine ev_neg (by simp) ?_
      simp only [Bool.false_eq_true, if_false]
      refine ev_ite (fun h => ?_) (fun h => ?_)
      · rw [if_pos h]; exact Ev.now _
      · rw [if_neg h]; exact Ev.now _
    · exact ev_pos rfl (Ev.now _)
  simp only [impl_Beats.f, impl_IsCard_eq, Option.bind_some]
  unfold beats
  refine ev_ite (fun h => ?_) (fun h => ?_)
  · refine ev_done (key _) ?_
    rw [h]
    by_cases hb : isCard b = true
    · by_cases hs : suitOf a = suitOf b
      · simp only [hb, hs, Bool.not_true, Bool.false_eq_true, if_false, if_true, Bool.true_and]
        exact decide_eq_decide.2 (rank_gt h hb hs)
      · simp [hb, hs]
    · simp [hb]
  · refine ev_done (key _) ?_
    simp [h]

theorem impl_WinnerOf_ev (l : List Int) (t : Int) (hl : l.length ≤ 1048576000) : Ev (fun k => impl_WinnerOf.f k l t) (winnerOf l t) := by
  have l0 : 0 < l.length → ∀ st : Nat, st ≤ l.length → Ev (fun k => (fun k (s : Int) (i : Int) => impl_WinnerOf.l0 k l t s l (l.length : Int) i) k 0 (st : Int)) (winF l t 0 st (l.drop st)) := by
    intro hp st hst
    refine ev_done (ev_loopN (fun k (s : Int) i => impl_WinnerOf.l0 k l t s l (l.length : Int) i) l.length (fun s i => winF l t s i (l.drop i)) (fun s i => 0 ≤ s ∧ s < l.length) ?_ ?_ 0 st hst ⟨by omega, by omega⟩) rfl
    · rintro s _
      refine ev_unfold (fun k => rfl) ?_
      simp only [impl_WinnerOf.l0]
      refine ev_neg (by omega) (ev_ret ?_)
      rw [drop_end]; rfl
    · rintro s i hi ⟨h1, h2⟩ ih
      refine ev_unfold (fun k => rfl) ?_
      simp only [impl_WinnerOf.l0]
      rw [w64next i (by omega), rd_at l i hi, drop_at l i hi]
      refine ev_pos (by omega) (ev_pos (by omega) (ev_pos (by omega) (ev_pos (by omega) (ev_pos (by omega) (Ev.bind (impl_Beats_ev _ _ _) ?_)))))
      unfold winF
      rw [show (i : Int) + 1 = ((i + 1 : Nat) : Int) by omega]
      refine ev_ite (fun h3 => ?_) (fun h3 => ?_)
      · rw [if_pos h3]; exact ih _ ⟨by omega, by omega⟩
      · rw [if_neg h3]; exact ih _ ⟨h1, h2⟩
  have j0 : ∀ b, (b = false → 0 < l.length) → Ev (fun k => impl_WinnerOf.j0 k l t b) (if b = true then -1 else winF l t 0 0 l) := by
    intro b hb
    refine ev_unfold (fun k => rfl) ?_
    simp only [impl_WinnerOf.j0]
    refine ev_ite (fun h2 => ?_) (fun h2 => ?_)
    · rw [if_pos h2]; exact Ev.now _
    · rw [if_neg h2]
      have hp := hb (by simpa using h2)
      exact l0 hp 0 (by omega)
  simp only [impl_WinnerOf.f]
  unfold winnerOf
  refine ev_ite (fun h => ?_) (fun h => ?_)
  · rw [if_pos (by omega)]; exact ev_done (j0 true (fun z => by cases z)) rfl
  · rw [if_neg (by omega)]
    refine Ev.bind (impl_IsHand_ev l hl) (ev_done (j0 _ (fun _ => by omega)) ?_)
    cases isHand l <;> simp

theorem FnExactWinnerOf : laws_FnExactWinnerOf.Pure := by
  intro l t _ _ _ _
  refine Ev.rounds ?_
  simp only [laws_FnExactWinnerOf.f]
  refine ev_ite (fun _ => Ev.now _) (fun h => ?_)
  have hl : l.length ≤ 1048576000 := by omega
  refine Ev.bind (laws_toIntS_ev l hl) (Ev.bind (spec_WinnerOf_ev l t hl) (Ev.bind (laws_toIntS_ev l hl) (Ev.bind (impl_WinnerOf_ev l t hl) (ev_pos rfl ?_))))
  exact Ev.bind (laws_toIntS_ev l hl) (Ev.bind (laws_eqIntS_ev l l (by omega)) (ev_pos (by simp) (Ev.now _)))

end Go.Proofs.Ytjalkgjjjebdpaa.Pure
