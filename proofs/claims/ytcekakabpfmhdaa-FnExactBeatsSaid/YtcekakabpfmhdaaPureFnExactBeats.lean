/- In the given program FnExactBeats answers true for every input, by what its functions compute; no condition. -/
import Derived.Test.YtcekakabpfmhdaaPFnExactBeatsx1
import Derived.Test.YtcekakabpfmhdaaLib
import Derived.Test.YtcekakabpfmhdaaCards
namespace Go.Proofs.Ytcekakabpfmhdaa.Pure
open Go.RowKit Go.Proofs.Ytcekakabpfmhdaa.PFnExactBeats Go.Proofs.YtcekakabpfmhdaaW.PrintWords Go.Proofs.YtcekakabpfmhdaaW.PrintLast Go.Proofs.YtcekakabpfmhdaaW.PrintMore Go.Proofs.Ytcekakabpfmhdaa.Lib
set_option linter.unusedVariables false
set_option linter.unusedSimpArgs false

theorem spec_l1In_eq (n a b : Int) : spec_l1In.f n a b = some (inR n a b) := by
  unfold spec_l1In.f inR
  by_cases h : a ≤ n
  · rw [if_pos (by omega)]; simp [h]
  · rw [if_neg (by omega)]; simp [h]

theorem spec_IsCard_eq (c : Int) : spec_IsCard.f c = some (isCard c) := by
  unfold spec_IsCard.f isCard
  rw [spec_l1In_eq]; rfl

theorem spec_SuitOf_eq (c : Int) : spec_SuitOf.f c = some (suitOf c) := by
  unfold spec_SuitOf.f suitOf
  rw [spec_IsCard_eq]
  simp only [Option.bind_some]
  by_cases h : isCard c = true
  · have h2 := (isCard_iff c).1 h
    rw [if_pos h, if_pos h, Int.tdiv_eq_ediv_of_nonneg h2.1, w64 _ (by omega)]
  · rw [if_neg h, if_neg h]

theorem spec_Beats_ev (a b t : Int) : Ev (fun k => spec_Beats.f k a b t) (beats a b t) := by
  have key : ∀ x, Ev (fun k => spec_Beats.j0 k a b t x) (if x = true then false else if suitOf a = suitOf b then decide (a > b) else suitOf a == t) := by
    intro x
    refine ev_unfold (fun k => rfl) ?_
    simp only [spec_Beats.j0, spec_SuitOf_eq, Option.bind_some]
    cases x
    · refine ev_neg (by simp) ?_
      simp only [Bool.false_eq_true, if_false]
      refine ev_ite (fun h => ?_) (fun h => ?_)
      · rw [if_pos h]; exact Ev.now _
      · rw [if_neg h]; exact Ev.now _
    · exact ev_pos rfl (Ev.now _)
  simp only [spec_Beats.f, spec_IsCard_eq, Option.bind_some]
  unfold beats
  refine ev_ite (fun h => ?_) (fun h => ?_)
  · refine ev_done (key _) ?_
    rw [h]
    cases isCard b <;> simp
  · refine ev_done (key _) ?_
    simp [h]

theorem impl_InRange_eq (n a b : Int) : impl_InRange.f n a b = some (inR n a b) := by
  unfold impl_InRange.f inR
  by_cases h : a ≤ n
  · rw [if_pos (by omega)]; simp [h]
  · rw [if_neg (by omega)]; simp [h]

theorem impl_IsCard_eq (c : Int) : impl_IsCard.f c = some (isCard c) := by
  unfold impl_IsCard.f isCard
  rw [impl_InRange_eq]; rfl

theorem impl_RankOf_eq (c : Int) : impl_RankOf.f c = some (rankOf c) := by
  unfold impl_RankOf.f rankOf
  rw [impl_IsCard_eq]
  simp only [Option.bind_some]
  by_cases h : isCard c = true
  · rw [if_pos h, if_pos h, Int.tmod_eq_emod_of_nonneg ((isCard_iff c).1 h).1]
  · rw [if_neg h, if_neg h]

theorem impl_SuitOf_eq (c : Int) : impl_SuitOf.f c = some (suitOf c) := by
  unfold impl_SuitOf.f suitOf
  rw [impl_IsCard_eq]
  simp only [Option.bind_some]
  by_cases h : isCard c = true
  · have h2 := (isCard_iff c).1 h
    rw [if_pos h, if_pos h, Int.tdiv_eq_ediv_of_nonneg h2.1, w64 _ (by omega)]
  · rw [if_neg h, if_neg h]

theorem impl_Beats_ev (a b t : Int) : Ev (fun k => impl_Beats.f k a b t) (beats a b t) := by
  have key : ∀ x, Ev (fun k => impl_Beats.j0 k a b t x) (if x = true then false else if suitOf a = suitOf b then decide (rankOf a > rankOf b) else suitOf a == t) := by
    intro x
    refine ev_unfold (fun k => rfl) ?_
    simp only [impl_Beats.j0, impl_SuitOf_eq, impl_RankOf_eq, Option.bind_some]
    cases x
    · refine ev_neg (by simp) ?_
      simp only [Bool.false_eq_true, if_false]
      refine ev_ite (fun h => ?_) (fun h => ?_)
      · rw [if_pos h]; exact Ev.now _
      · rw [if_neg h]; exact Ev.now _
    · exact ev_pos rfl (Ev.now _)
  simp only [impl_Beats.f, impl_IsCard_eq, Option.bind_some]
  unfold beats
  refine ev_ite (fun h => ?_) (fun h => ?_)
  · refine ev_done (key _) ?_
    rw [h]
    by_cases hb : isCard b = true
    · by_cases hs : suitOf a = suitOf b
      · simp only [hb, hs, Bool.not_true, Bool.false_eq_true, if_false, if_true, Bool.true_and]
        exact decide_eq_decide.2 (rank_gt h hb hs)
      · simp [hb, hs]
    · simp [hb]
  · refine ev_done (key _) ?_
    simp [h]

theorem FnExactBeats : laws_FnExactBeats.Pure := by
  intro a b t _ _ _
  refine Ev.rounds ?_
  simp only [laws_FnExactBeats.f]
  exact Ev.bind (spec_Beats_ev a b t) (Ev.bind (impl_Beats_ev a b t) (ev_neg (by simp) (Ev.now _)))

end Go.Proofs.Ytcekakabpfmhdaa.Pure
