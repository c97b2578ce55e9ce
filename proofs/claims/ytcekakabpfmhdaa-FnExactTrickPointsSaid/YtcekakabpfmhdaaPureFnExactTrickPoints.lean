/- In the given program FnExactTrickPoints answers true for every input, by what its functions compute; no condition. -/
import Derived.Test.YtcekakabpfmhdaaPFnExactTrickPointsx2
import Derived.Test.YtcekakabpfmhdaaLib
import Derived.Test.YtcekakabpfmhdaaCards
namespace Go.Proofs.Ytcekakabpfmhdaa.Pure
open Go.RowKit Go.Proofs.Ytcekakabpfmhdaa.PFnExactTrickPoints Go.Proofs.YtcekakabpfmhdaaW.PrintWords Go.Proofs.YtcekakabpfmhdaaW.PrintLast Go.Proofs.YtcekakabpfmhdaaW.PrintMore Go.Proofs.Ytcekakabpfmhdaa.Lib
set_option linter.unusedVariables false
set_option linter.unusedSimpArgs false

theorem laws_toIntS_ev (l : List Int) (hl : l.length ≤ 1048576) : Ev (fun k => laws_toIntS.f k l) l := by
  simp only [laws_toIntS.f]
  refine ev_pos (by omega) (ev_pos (by omega) ?_)
  refine ev_loop (fun k (s : List Int) i => laws_toIntS.l0 k l s i) l (fun _ _ => l) (fun s i => s.length = l.length ∧ s.take i = l.take i) ?_ ?_ _ 0 (by omega) ⟨by simp, by simp⟩
  · rintro s ⟨h1, h2⟩
    refine ev_unfold (fun k => rfl) ?_
    simp only [laws_toIntS.l0]
    refine ev_neg (by omega) (ev_ret ?_)
    rw [List.take_of_length_le (by omega), List.take_of_length_le (by omega)] at h2
    exact h2
  · rintro s i hi ⟨h1, h2⟩ ih
    refine ev_unfold (fun k => rfl) ?_
    simp only [laws_toIntS.l0]
    refine ev_pos (by omega) (ev_pos (by omega) (ev_pos (by omega) ?_))
    rw [w64next i (by omega), rd_at l i hi, Int.toNat_natCast]
    refine ih _ ⟨by simpa using h1, ?_⟩
    apply List.ext_getElem
    · simp; omega
    · intro j hj1 hj2
      simp at hj1 hj2
      simp only [List.getElem_take, List.getElem_set]
      by_cases hij : i = j
      · subst hij; simp
      · rw [if_neg hij]
        have h3 : (s.take i)[j]'(by simp; omega) = (l.take i)[j]'(by simp; omega) := by simp only [h2]
        simpa using h3

theorem laws_eqIntS_ev (a b : List Int) (ha : a.length ≤ 1048576000) : Ev (fun k => laws_eqIntS.f k a b) (decide (a = b)) := by
  simp only [laws_eqIntS.f]
  refine ev_ite (fun hlen => ?_) (fun hne => ev_ret ?_)
  · have hlen' : a.length = b.length := by omega
    have h := ev_loop (fun k (_ : Unit) i => laws_eqIntS.l0 k a b i) a (fun _ r => decide (r = b.drop (a.length - r.length))) (fun _ _ => True) ?_ ?_ () 0 (by omega) trivial
    · refine ev_done h ?_
      simp
    · rintro _ _
      refine ev_unfold (fun k => rfl) ?_
      simp only [laws_eqIntS.l0]
      refine ev_neg (by omega) (ev_ret ?_)
      rw [List.length_nil, Nat.sub_zero, hlen', drop_end]
      simp
    · rintro _ i hi _ ih
      refine ev_unfold (fun k => rfl) ?_
      simp only [laws_eqIntS.l0]
      refine ev_pos (by omega) (ev_pos (by omega) (ev_pos (by omega) ?_))
      rw [w64next i (by omega), rd_at a i hi, rd_at b i (by omega)]
      have e1 : a.length - (a[i] :: a.drop (i + 1)).length = i := by simp; omega
      have e2 : a.length - (a.drop (i + 1)).length = i + 1 := by simp; omega
      refine ev_ite (fun heq => ?_) (fun hne => ev_ret ?_)
      · refine ev_done (ih () trivial) ?_
        rw [e1, e2, drop_at b i (by omega), heq]
        exact decide_eq_decide.2 ⟨fun h => by rw [h], fun h => (List.cons.inj h).2⟩
      · rw [e1, drop_at b i (by omega)]
        exact (decide_eq_false (fun h => hne (List.cons.inj h).1)).symm
  · have : a ≠ b := by rintro rfl; exact hne rfl
    simp [this]

theorem impl_InRange_eq (n a b : Int) : impl_InRange.f n a b = some (inR n a b) := by
  unfold impl_InRange.f inR
  by_cases h : a ≤ n
  · rw [if_pos (by omega)]; simp [h]
  · rw [if_neg (by omega)]; simp [h]

theorem impl_IsCard_eq (c : Int) : impl_IsCard.f c = some (isCard c) := by
  unfold impl_IsCard.f isCard
  rw [impl_InRange_eq]; rfl

theorem impl_RankOf_eq (c : Int) : impl_RankOf.f c = some (rankOf c) := by
  unfold impl_RankOf.f rankOf
  rw [impl_IsCard_eq]
  simp only [Option.bind_some]
  by_cases h : isCard c = true
  · rw [if_pos h, if_pos h, Int.tmod_eq_emod_of_nonneg ((isCard_iff c).1 h).1]
  · rw [if_neg h, if_neg h]

theorem impl_TrickPoints_ev (l : List Int) (hl : l.length ≤ 1048576) : Ev (fun k => impl_TrickPoints.f k l) (pointsW 0 l) := by
  simp only [impl_TrickPoints.f]
  refine ev_loop (fun k (s : Int) i => impl_TrickPoints.l0 k s l (l.length : Int) i) l (fun s r => pointsW s r) (fun s _ => -9223372036854775808 ≤ s ∧ s ≤ 9223372036854775807) ?_ ?_ 0 0 (by omega) (by omega)
  · rintro s _
    refine ev_unfold (fun k => rfl) ?_
    simp only [impl_TrickPoints.l0]
    exact ev_neg (by omega) (ev_ret rfl)
  · rintro s i hi hs ih
    refine ev_unfold (fun k => rfl) ?_
    simp only [impl_TrickPoints.l0]
    refine ev_pos (by omega) (ev_pos (by omega) (ev_pos (by omega) (ev_eq (impl_RankOf_eq _) ?_)))
    rw [w64next i (by omega), rd_at l i hi]
    have hw : ∀ x : Int, wrap64 (s + pointOf l[i]) = x → -9223372036854775808 ≤ x ∧ x ≤ 9223372036854775807 → Ev (fun k => (fun (s : Int) i => impl_TrickPoints.l0 k s l (l.length : Int) i) x ((i + 1 : Nat) : Int)) (pointsW s (l[i] :: l.drop (i + 1))) := by
      intro x hx hr
      refine ev_done (ih x hr) ?_
      show _ = pointsW (wrap64 (s + pointOf l[i])) _
      rw [hx]
    have hr : ∀ y : Int, -9223372036854775808 ≤ wrap64 y ∧ wrap64 y ≤ 9223372036854775807 := fun y => by unfold wrap64; omega
    repeat' (refine ev_ite (fun _ => ?_) (fun _ => ?_))
    all_goals first | exact hw _ (by unfold pointOf; congr 2; omega) (hr _) | exact hw _ (by unfold pointOf; rw [if_neg (by assumption), if_neg (by assumption), if_neg (by assumption), if_neg (by assumption), if_neg (by assumption), Int.add_zero, w64 _ hs]) hs

theorem spec_l1In_eq (n a b : Int) : spec_l1In.f n a b = some (inR n a b) := by
  unfold spec_l1In.f inR
  by_cases h : a ≤ n
  · rw [if_pos (by omega)]; simp [h]
  · rw [if_neg (by omega)]; simp [h]

theorem spec_IsCard_eq (c : Int) : spec_IsCard.f c = some (isCard c) := by
  unfold spec_IsCard.f isCard
  rw [spec_l1In_eq]; rfl

theorem spec_RankOf_eq (c : Int) : spec_RankOf.f c = some (rankOf c) := by
  unfold spec_RankOf.f rankOf
  rw [spec_IsCard_eq]
  simp only [Option.bind_some]
  by_cases h : isCard c = true
  · rw [if_pos h, if_pos h, Int.tmod_eq_emod_of_nonneg ((isCard_iff c).1 h).1]
  · rw [if_neg h, if_neg h]

theorem spec_TrickPoints_ev (l : List Int) (hl : l.length ≤ 1048576) : Ev (fun k => spec_TrickPoints.f k l) (pointsW 0 l) := by
  simp only [spec_TrickPoints.f]
  refine ev_loop (fun k (s : Int) i => spec_TrickPoints.l0 k l s i) l (fun s r => pointsW s r) (fun s _ => -9223372036854775808 ≤ s ∧ s ≤ 9223372036854775807) ?_ ?_ 0 0 (by omega) (by omega)
  · rintro s _
    refine ev_unfold (fun k => rfl) ?_
    simp only [spec_TrickPoints.l0]
    exact ev_neg (by omega) (ev_ret rfl)
  · rintro s i hi hs ih
    refine ev_unfold (fun k => rfl) ?_
    simp only [spec_TrickPoints.l0]
    refine ev_pos (by omega) (ev_pos (by omega) (ev_eq (spec_RankOf_eq _) ?_))
    rw [w64next i (by omega), rd_at l i hi]
    have hw : ∀ x : Int, wrap64 (s + pointOf l[i]) = x → -9223372036854775808 ≤ x ∧ x ≤ 9223372036854775807 → Ev (fun k => (fun (s : Int) i => spec_TrickPoints.l0 k l s i) x ((i + 1 : Nat) : Int)) (pointsW s (l[i] :: l.drop (i + 1))) := by
      intro x hx hr
      refine ev_done (ih x hr) ?_
      show _ = pointsW (wrap64 (s + pointOf l[i])) _
      rw [hx]
    have hr : ∀ y : Int, -9223372036854775808 ≤ wrap64 y ∧ wrap64 y ≤ 9223372036854775807 := fun y => by unfold wrap64; omega
    repeat' (refine ev_ite (fun _ => ?_) (fun _ => ?_))
    all_goals first | exact hw _ (by unfold pointOf; congr 2; omega) (hr _) | exact hw _ (by unfold pointOf; rw [if_neg (by assumption), if_neg (by assumption), if_neg (by assumption), if_neg (by assumption), if_neg (by assumption), Int.add_zero, w64 _ hs]) hs

theorem FnExactTrickPoints : laws_FnExactTrickPoints.Pure := by
  intro l _ _ _
  refine Ev.rounds ?_
  simp only [laws_FnExactTrickPoints.f]
  refine ev_ite (fun _ => Ev.now _) (fun h => ?_)
  have hl : l.length ≤ 1048576 := by omega
  refine Ev.bind (laws_toIntS_ev l hl) (Ev.bind (spec_TrickPoints_ev l hl) (Ev.bind (laws_toIntS_ev l hl) (Ev.bind (impl_TrickPoints_ev l hl) (ev_pos rfl ?_))))
  exact Ev.bind (laws_toIntS_ev l hl) (Ev.bind (laws_eqIntS_ev l l (by omega)) (ev_pos (by simp) (Ev.now _)))

end Go.Proofs.Ytcekakabpfmhdaa.Pure
