/- In the given program FnExactIsSetMeld answers true for every input, by what its functions compute; no condition. -/
import Derived.Test.YtcekakabpfmhdaaQFnExactIsSetMeldx2
import Derived.Test.YtcekakabpfmhdaaLib
import Derived.Test.YtcekakabpfmhdaaCards
import Derived.Test.YtcekakabpfmhdaaCards2
import Derived.Test.YtcekakabpfmhdaaCalls
import Derived.Test.YtcekakabpfmhdaaHands
namespace Go.Proofs.Ytcekakabpfmhdaa.Pure
open Go.RowKit Go.Proofs.Ytcekakabpfmhdaa.QFnExactIsSetMeld Go.Proofs.YtcekakabpfmhdaaW.PrintWords Go.Proofs.YtcekakabpfmhdaaW.PrintLast Go.Proofs.YtcekakabpfmhdaaW.PrintMore Go.Proofs.Ytcekakabpfmhdaa.Lib
set_option linter.unusedVariables false
set_option linter.unusedSimpArgs false

theorem laws_toIntS_ev (l : List Int) (hl : l.length ≤ 1048576000) : Ev (fun k => laws_toIntS.f k l) l := by
  simp only [laws_toIntS.f]
  refine ev_pos (by omega) (ev_pos (by omega) ?_)
  refine ev_loop (fun k (s : List Int) i => laws_toIntS.l0 k l s i) l (fun _ _ => l) (fun s i => s.length = l.length ∧ s.take i = l.take i) ?_ ?_ _ 0 (by omega) ⟨by simp, by simp⟩
  · rintro s ⟨h1, h2⟩
    refine ev_unfold (fun k => rfl) ?_
    simp only [laws_toIntS.l0]
    refine ev_neg (by omega) (ev_ret ?_)
    rw [List.take_of_length_le (by omega), List.take_of_length_le (by omega)] at h2
    exact h2
  · rintro s i hi ⟨h1, h2⟩ ih
    refine ev_unfold (fun k => rfl) ?_
    simp only [laws_toIntS.l0]
    refine ev_pos (by omega) (ev_pos (by omega) (ev_pos (by omega) ?_))
    rw [w64next i (by omega), rd_at l i hi, Int.toNat_natCast]
    refine ih _ ⟨by simpa using h1, ?_⟩
    apply List.ext_getElem
    · simp; omega
    · intro j hj1 hj2
      simp at hj1 hj2
      simp only [List.getElem_take, List.getElem_set]
      by_cases hij : i = j
      · subst hij; simp
      · rw [if_neg hij]
        have h3 : (s.take i)[j]'(by simp; omega) = (l.take i)[j]'(by simp; omega) := by simp only [h2]
        simpa using h3

theorem laws_eqIntS_ev (a b : List Int) (ha : a.length ≤ 1048576000) : Ev (fun k => laws_eqIntS.f k a b) (decide (a = b)) := by
  simp only [laws_eqIntS.f]
  refine ev_ite (fun hlen => ?_) (fun hne => ev_ret ?_)
  · have hlen' : a.length = b.length := by omega
    have h := ev_loop (fun k (_ : Unit) i => laws_eqIntS.l0 k a b i) a (fun _ r => decide (r = b.drop (a.length - r.length))) (fun _ _ => True) ?_ ?_ () 0 (by omega) trivial
    · refine ev_done h ?_
      simp
    · rintro _ _
      refine ev_unfold (fun k => rfl) ?_
      simp only [laws_eqIntS.l0]
      refine ev_neg (by omega) (ev_ret ?_)
      rw [List.length_nil, Nat.sub_zero, hlen', drop_end]
      simp
    · rintro _ i hi _ ih
      refine ev_unfold (fun k => rfl) ?_
      simp only [laws_eqIntS.l0]
      refine ev_pos (by omega) (ev_pos (by omega) (ev_pos (by omega) ?_))
      rw [w64next i (by omega), rd_at a i hi, rd_at b i (by omega)]
      have e1 : a.length - (a[i] :: a.drop (i + 1)).length = i := by simp; omega
      have e2 : a.length - (a.drop (i + 1)).length = i + 1 := by simp; omega
      refine ev_ite (fun heq => ?_) (fun hne => ev_ret ?_)
      · refine ev_done (ih () trivial) ?_
        rw [e1, e2, drop_at b i (by omega), heq]
        exact decide_eq_decide.2 ⟨fun h => by rw [h], fun h => (List.cons.inj h).2⟩
      · rw [e1, drop_at b i (by omega)]
        exact (decide_eq_false (fun h => hne (List.cons.inj h).1)).symm
  · have : a ≠ b := by rintro rfl; exact hne rfl
    simp [this]

theorem spec_l1In_eq (n a b : Int) : spec_l1In.f n a b = some (inR n a b) := by
  unfold spec_l1In.f inR
  by_cases h : a ≤ n
  · rw [if_pos (by omega)]; simp [h]
  · rw [if_neg (by omega)]; simp [h]

theorem spec_IsCard_eq (c : Int) : spec_IsCard.f c = some (isCard c) := by
  unfold spec_IsCard.f isCard
  rw [spec_l1In_eq]; rfl

theorem spec_RankOf_eq (c : Int) : spec_RankOf.f c = some (rankOf c) := by
  unfold spec_RankOf.f rankOf
  rw [spec_IsCard_eq]
  simp only [Option.bind_some]
  by_cases h : isCard c = true
  · rw [if_pos h, if_pos h, Int.tmod_eq_emod_of_nonneg ((isCard_iff c).1 h).1]
  · rw [if_neg h, if_neg h]

theorem spec_HasCard_ev (l : List Int) (c : Int) (hl : l.length ≤ 1048576000) : Ev (fun k => spec_HasCard.f k l c) (hasCard l c) := by
  simp only [spec_HasCard.f]
  refine ev_done (ev_loop (fun k (_ : Unit) i => spec_HasCard.l0 k l c i) l (fun _ r => hasCard r c) (fun _ _ => True) ?_ ?_ () 0 (by omega) trivial) rfl
  · rintro s _
    refine ev_unfold (fun k => rfl) ?_
    simp only [spec_HasCard.l0]
    exact ev_neg (by omega) (ev_ret (by simp [hasCard]))
  · rintro s i hi _ ih
    refine ev_unfold (fun k => rfl) ?_
    simp only [spec_HasCard.l0]
    rw [w64next i (by omega), rd_at l i hi]
    refine ev_pos (by omega) (ev_pos (by omega) (ev_ite (fun h => ev_ret ?_) (fun h => ev_done (ih () trivial) ?_)))
    · simp [hasCard, h]
    · have h2 : ¬ c = l[i] := fun e => h e.symm
      simp only [hasCard, List.mem_cons]
      exact decide_eq_decide.2 ⟨fun h => .inr h, fun h => h.resolve_left h2⟩

theorem spec_IsHand_ev (l : List Int) (hl : l.length ≤ 1048576000) : Ev (fun k => spec_IsHand.f k l) (isHand l) := by
  simp only [spec_IsHand.f]
  refine ev_done (ev_loopN (fun k (_ : Unit) i => spec_IsHand.l0 k l i) l.length (fun _ i => handF (l.take i) (l.drop i)) (fun _ _ => True) ?_ ?_ () 0 (by omega) trivial) (by simp [isHand])
  · rintro s _
    refine ev_unfold (fun k => rfl) ?_
    simp only [spec_IsHand.l0]
    refine ev_neg (by omega) (ev_ret ?_)
    rw [drop_end]; rfl
  · rintro s i hi _ ih
    have ht : (l.take i).length ≤ 1048576000 := by simp; omega
    refine ev_unfold (fun k => rfl) ?_
    simp only [spec_IsHand.l0]
    rw [w64next i (by omega), rd_at l i hi, drop_at l i hi, Int.toNat_natCast]
    unfold handF
    refine ev_pos (by omega) (ev_pos (by omega) (ev_eq (spec_IsCard_eq _) (ev_ite (fun h => ?_) (fun h => ev_ret ?_))))
    · refine ev_pos (by omega) (Ev.bind (spec_HasCard_ev _ _ ht) (ev_ite (fun h2 => ev_ret ?_) (fun h2 => ev_done (ih () trivial) ?_)))
      · rw [h2]; simp
      · rw [Bool.not_eq_true] at h2
        rw [h, h2, take_at l i hi]; simp
    · rw [Bool.not_eq_true] at h
      rw [h]; simp

theorem spec_IsSetMeld_ev (l : List Int) (hl : l.length ≤ 1048576000) : Ev (fun k => spec_IsSetMeld.f k l) (setMeld l) := by
  simp only [spec_IsSetMeld.f]
  refine ev_done (ev_loop (fun k (_ : Unit) i => spec_IsSetMeld.l0 k l i) l (fun _ r => (r.all fun c => decide (rankOf c = rankOf (rd l 0))) && (isHand l && inR (l.length : Int) 3 4)) (fun _ _ => True) ?_ ?_ () 0 (by omega) trivial) ?_
  · rintro s _
    refine ev_unfold (fun k => rfl) ?_
    simp only [spec_IsSetMeld.l0, spec_l1In_eq, Option.bind_some]
    refine ev_neg (by omega) (Ev.bind (spec_IsHand_ev l hl) (ev_ite (fun h => ev_ret ?_) (fun h => ev_ret ?_)))
    · simp [h]
    · rw [Bool.not_eq_true] at h; simp [h]
  · rintro s i hi _ ih
    refine ev_unfold (fun k => rfl) ?_
    simp only [spec_IsSetMeld.l0, spec_RankOf_eq, Option.bind_some]
    rw [w64next i (by omega), rd_at l i hi, List.all_cons]
    refine ev_pos (by omega) (ev_pos (by omega) (ev_pos (by omega) (ev_ite (fun h => ev_done (ih () trivial) ?_) (fun h => ev_ret ?_))))
    · rw [show decide (rankOf l[i] = rankOf (rd l 0)) = true from decide_eq_true h, Bool.true_and]
    · rw [show decide (rankOf l[i] = rankOf (rd l 0)) = false from decide_eq_false h]; simp
  · unfold setMeld
    rw [List.drop_zero]
    cases isHand l <;> cases inR (l.length : Int) 3 4 <;> simp

theorem impl_InRange_eq (n a b : Int) : impl_InRange.f n a b = some (inR n a b) := by
  unfold impl_InRange.f inR
  by_cases h : a ≤ n
  · rw [if_pos (by omega)]; simp [h]
  · rw [if_neg (by omega)]; simp [h]

theorem impl_IsCard_eq (c : Int) : impl_IsCard.f c = some (isCard c) := by
  unfold impl_IsCard.f isCard
  rw [impl_InRange_eq]; rfl

theorem impl_IsHand_ev (l : List Int) (hl : l.length ≤ 1048576000) : Ev (fun k => impl_IsHand.f k l) (isHand l) := by
  simp only [impl_IsHand.f]
  refine ev_done (ev_loopN (fun k (s : List Bool) i => impl_IsHand.l0 k l s i) l.length (fun _ i => handF (l.take i) (l.drop i)) (fun s i => s.length = 52 ∧ ∀ c : Nat, c < 52 → s.getD c false = decide ((c : Int) ∈ l.take i)) ?_ ?_ _ 0 (by omega) ⟨by simp, fun c hc => by rw [List.getD_eq_getElem?_getD, List.getElem?_replicate, if_pos hc]; simp⟩) (by simp [isHand])
  · rintro s _
    refine ev_unfold (fun k => rfl) ?_
    simp only [impl_IsHand.l0]
    refine ev_neg (by omega) (ev_ret ?_)
    rw [drop_end]; rfl
  · rintro s i hi ⟨h52, hs⟩ ih
    refine ev_unfold (fun k => rfl) ?_
    simp only [impl_IsHand.l0]
    rw [w64next i (by omega), rd_at l i hi, drop_at l i hi]
    unfold handF
    refine ev_pos (by omega) (ev_pos (by omega) (ev_eq (impl_IsCard_eq _) (ev_ite (fun h => ?_) (fun h => ev_ret ?_))))
    · have hc := (isCard_iff _).1 h
      have he := hs l[i].toNat (by omega)
      rw [show ((l[i].toNat : Nat) : Int) = l[i] by omega] at he
      refine ev_pos (by omega) (ev_pos (by omega) (ev_ite (fun h2 => ev_ret ?_) (fun h2 => ev_done (ih _ ⟨by simpa using h52, fun c hc2 => ?_⟩) ?_)))
      · rw [h2] at he
        unfold hasCard
        rw [← he]; simp
      · rw [take_at l i hi, List.getD_eq_getElem?_getD, List.getElem?_set]
        have h3 := hs c hc2
        rw [List.getD_eq_getElem?_getD] at h3
        by_cases hci : l[i].toNat = c
        · rw [if_pos hci, if_pos (by omega)]
          have : (c : Int) = l[i] := by omega
          exact (decide_eq_true (List.mem_append.2 (.inr (by rw [this]; exact List.mem_singleton.2 rfl)))).symm
        · rw [if_neg hci, h3]
          have : ¬ (c : Int) = l[i] := by omega
          exact decide_eq_decide.2 ⟨fun h => List.mem_append.2 (.inl h), fun h => (List.mem_append.1 h).resolve_right (fun h => this (List.mem_singleton.1 h))⟩
      · rw [Bool.not_eq_true] at h2
        rw [h2] at he
        unfold hasCard
        rw [h, ← he, take_at l i hi]; simp
    · rw [Bool.not_eq_true] at h
      rw [h]; simp

theorem impl_RankOf_eq (c : Int) : impl_RankOf.f c = some (rankOf c) := by
  unfold impl_RankOf.f rankOf
  rw [impl_IsCard_eq]
  simp only [Option.bind_some]
  by_cases h : isCard c = true
  · rw [if_pos h, if_pos h, Int.tmod_eq_emod_of_nonneg ((isCard_iff c).1 h).1]
  · rw [if_neg h, if_neg h]

theorem impl_IsSetMeld_ev (l : List Int) (hl : l.length ≤ 1048576000) : Ev (fun k => impl_IsSetMeld.f k l) (setMeld l) := by
  have l0 : Ev (fun k => impl_IsSetMeld.l0 k l l (l.length : Int) 0) (l.all fun c => decide (rankOf c = rankOf (rd l 0))) := by
    refine ev_done (ev_loop (fun k (_ : Unit) i => impl_IsSetMeld.l0 k l l (l.length : Int) i) l (fun _ r => (r.all fun c => decide (rankOf c = rankOf (rd l 0)))) (fun _ _ => True) ?_ ?_ () 0 (by omega) trivial) rfl
    · rintro s _
      refine ev_unfold (fun k => rfl) ?_
      simp only [impl_IsSetMeld.l0]
      exact ev_neg (by omega) (ev_ret rfl)
    · rintro s i hi _ ih
      refine ev_unfold (fun k => rfl) ?_
      simp only [impl_IsSetMeld.l0, impl_RankOf_eq, Option.bind_some]
      rw [w64next i (by omega), rd_at l i hi, List.all_cons]
      refine ev_pos (by omega) (ev_pos (by omega) (ev_pos (by omega) (ev_pos (by omega) (ev_ite (fun h => ev_done (ih () trivial) ?_) (fun h => ev_ret ?_)))))
      · rw [show decide (rankOf l[i] = rankOf (rd l 0)) = true from decide_eq_true h, Bool.true_and]
      · rw [show decide (rankOf l[i] = rankOf (rd l 0)) = false from decide_eq_false h]; simp
  have j0 : ∀ b, Ev (fun k => impl_IsSetMeld.j0 k l b) (!b && l.all fun c => decide (rankOf c = rankOf (rd l 0))) := by
    intro b
    refine ev_unfold (fun k => rfl) ?_
    simp only [impl_IsSetMeld.j0]
    refine ev_ite (fun h => ?_) (fun h => ?_)
    · rw [h]; exact Ev.now _
    · rw [Bool.not_eq_true] at h; rw [h]; exact ev_done l0 (by simp)
  simp only [impl_IsSetMeld.f, impl_InRange_eq, Option.bind_some]
  unfold setMeld
  refine Ev.bind (impl_IsHand_ev l hl) (ev_ite (fun h => ev_done (j0 _) ?_) (fun h => ev_done (j0 _) ?_))
  · rw [h]; simp
  · rw [Bool.not_eq_true] at h; rw [h]; simp

theorem FnExactIsSetMeld : laws_FnExactIsSetMeld.Pure := by
  intro l _ _ _
  refine Ev.rounds ?_
  simp only [laws_FnExactIsSetMeld.f]
  refine ev_ite (fun _ => Ev.now _) (fun h => ?_)
  have hl : l.length ≤ 1048576000 := by omega
  refine Ev.bind (laws_toIntS_ev l hl) (Ev.bind (spec_IsSetMeld_ev l hl) (Ev.bind (laws_toIntS_ev l hl) (Ev.bind (impl_IsSetMeld_ev l hl) (ev_neg (by simp) ?_))))
  exact Ev.bind (laws_toIntS_ev l hl) (Ev.bind (laws_eqIntS_ev l l (by omega)) (ev_pos (by simp) (Ev.now _)))

end Go.Proofs.Ytcekakabpfmhdaa.Pure
