/- In the given program FnExactMatchSet answers true for every input, by what its functions compute; no condition. -/
import Derived.Test.YtjnepcpjhhebaaaQFnExactMatchSetx5
import Derived.Test.YtjnepcpjhhebaaaLib
import Derived.Test.YtjnepcpjhhebaaaCards
import Derived.Test.YtjnepcpjhhebaaaCards2
import Derived.Test.YtjnepcpjhhebaaaCalls
import Derived.Test.YtjnepcpjhhebaaaHands
import Derived.Test.YtjnepcpjhhebaaaPats
namespace Go.Proofs.Ytjnepcpjhhebaaa.Pure
open Go.RowKit Go.Proofs.Ytjnepcpjhhebaaa.QFnExactMatchSet Go.Proofs.YtjnepcpjhhebaaaW.PrintWords Go.Proofs.YtjnepcpjhhebaaaW.PrintLast Go.Proofs.YtjnepcpjhhebaaaW.PrintMore Go.Proofs.Ytjnepcpjhhebaaa.Lib
set_option linter.unusedVariables false
set_option linter.unusedSimpArgs false

theorem spec_l1In_eq (n a b : Int) : spec_l1In.f n a b = some (inR n a b) := by
  unfold spec_l1In.f inR
  by_cases h : a ≤ n
  · rw [if_pos (by omega)]; simp [h]
  · rw [if_neg (by omega)]; simp [h]

theorem spec_l8Leaf_eq (s : Int) : spec_l8Leaf.f s = some (isLeaf s) := by
  unfold spec_l8Leaf.f isLeaf
  simp only [spec_l1In_eq, Option.bind_some]
  repeat' split
  all_goals simp_all

theorem spec_IsPattern_ev (l : List Int) (hl : l.length ≤ 1048576000) : Ev (fun k => spec_IsPattern.f k l) (isPattern l) := by
  simp only [spec_IsPattern.f]
  refine ev_loop (fun k (s : Int) i => spec_IsPattern.l0 k l s i) l (fun s r => decide (patF s r = some 1) && decide (l.length ≤ 20)) (fun s i => 0 ≤ s ∧ s ≤ i) ?_ ?_ 0 0 (by omega) ⟨by omega, by omega⟩
  · rintro s ⟨h1, h2⟩
    refine ev_unfold (fun k => rfl) ?_
    simp only [spec_IsPattern.l0]
    refine ev_neg (by omega) ?_
    refine ev_ite (fun h => ev_ret ?_) (fun h => ev_ret ?_)
    · simp [patF, h]; omega
    · simp [patF, h]
  · rintro s i hi ⟨h1, h2⟩ ih
    have j1 : ∀ b, (b = true → Ev (fun k => spec_IsPattern.l0 k l s ((i + 1 : Nat) : Int)) (decide (patF s (l.drop (i + 1)) = some 1) && decide (l.length ≤ 20))) → Ev (fun k => spec_IsPattern.j1 k l s i b) (if b = true then (decide (patF s (l.drop (i + 1)) = some 1) && decide (l.length ≤ 20)) else if l[i] = -2 ∨ l[i] = -3 then (if s ≥ 2 then (decide (patF (s - 1) (l.drop (i + 1)) = some 1) && decide (l.length ≤ 20)) else false) else false) := by
      intro b hb
      refine ev_unfold (fun k => rfl) ?_
      simp only [spec_IsPattern.j1]
      rw [w64next i (by omega), rd_at l i hi, w64 (s - 1) (by omega)]
      refine ev_ite (fun h => ?_) (fun h => ?_)
      · rw [if_pos h]; exact hb h
      · rw [if_neg h]
        refine ev_pos (by omega) (ev_pos (by omega) ?_)
        refine ev_ite (fun h2 => ?_) (fun h2 => ?_)
        · rw [if_pos (.inl h2)]
          refine ev_ite (fun h3 => ?_) (fun h3 => ?_)
          · rw [if_pos h3]; exact ih _ ⟨by omega, by omega⟩
          · rw [if_neg h3]; exact Ev.now _
        · refine ev_ite (fun h4 => ?_) (fun h4 => ?_)
          · rw [if_pos (.inr h4)]
            refine ev_ite (fun h3 => ?_) (fun h3 => ?_)
            · rw [if_pos h3]; exact ih _ ⟨by omega, by omega⟩
            · rw [if_neg h3]; exact Ev.now _
          · rw [if_neg (by omega)]; exact Ev.now _
    refine ev_unfold (fun k => rfl) ?_
    simp only [spec_IsPattern.l0]
    refine ev_pos (by omega) (ev_pos (by omega) (ev_eq (spec_l8Leaf_eq _) ?_))
    rw [w64next i (by omega), rd_at l i hi, w64 (s + 1) (by omega)]
    unfold patF
    refine ev_ite (fun h => ?_) (fun h => ?_)
    · rw [if_pos h]; exact ih _ ⟨by omega, by omega⟩
    · rw [if_neg h]
      refine ev_ite (fun h2 => ?_) (fun h2 => ?_)
      · rw [if_pos h2]
        refine ev_done (j1 _ (fun _ => ih _ ⟨by omega, by omega⟩)) ?_
        by_cases h3 : s ≥ 1
        · simp [h3]
        · simp [h3]; omega
      · rw [if_neg h2]
        refine ev_done (j1 _ (fun h => by cases h)) ?_
        simp only [Bool.false_eq_true, if_false]
        by_cases h3 : l[i] = -2 ∨ l[i] = -3
        · rw [if_pos h3, if_pos h3]
          by_cases h4 : s ≥ 2
          · rw [if_pos h4, if_pos h4]
          · rw [if_neg h4, if_neg h4]; simp
        · rw [if_neg h3, if_neg h3]; simp

theorem spec_IsCard_eq (c : Int) : spec_IsCard.f c = some (isCard c) := by
  unfold spec_IsCard.f isCard
  rw [spec_l1In_eq]; rfl

theorem spec_SuitOf_eq (c : Int) : spec_SuitOf.f c = some (suitOf c) := by
  unfold spec_SuitOf.f suitOf
  rw [spec_IsCard_eq]
  simp only [Option.bind_some]
  by_cases h : isCard c = true
  · have h2 := (isCard_iff c).1 h
    rw [if_pos h, if_pos h, Int.tdiv_eq_ediv_of_nonneg h2.1, w64 _ (by omega)]
  · rw [if_neg h, if_neg h]

theorem spec_RankOf_eq (c : Int) : spec_RankOf.f c = some (rankOf c) := by
  unfold spec_RankOf.f rankOf
  rw [spec_IsCard_eq]
  simp only [Option.bind_some]
  by_cases h : isCard c = true
  · rw [if_pos h, if_pos h, Int.tmod_eq_emod_of_nonneg ((isCard_iff c).1 h).1]
  · rw [if_neg h, if_neg h]

theorem spec_IsRed_eq (c : Int) : spec_IsRed.f c = some (isRed c) := by
  simp only [spec_IsRed.f, spec_SuitOf_eq, spec_l1In_eq, Option.bind_some]
  rfl

theorem spec_l8Value_eq (s c : Int) (hs : -1000 ≤ s ∧ s ≤ 1000) : spec_l8Value.f s c = some (asksOf s c) := by
  simp only [spec_l8Value.f, spec_IsRed_eq, spec_RankOf_eq, spec_SuitOf_eq, Option.bind_some]
  unfold asksOf
  by_cases h : s = 400
  · rw [if_pos h, if_pos h]
  rw [if_neg h, if_neg h]
  by_cases h2 : s ≥ 300
  · rw [if_pos h2, if_pos h2, w64 _ (by omega)]
  rw [if_neg h2, if_neg h2]
  by_cases h3 : s ≥ 200
  · rw [if_pos h3, if_pos h3, w64 _ (by omega)]; rfl
  rw [if_neg h3, if_neg h3, w64 _ (by omega)]; rfl

theorem spec_Matches_ev (p : List Int) (c : Int) (hl : p.length ≤ 1048576000) : Ev (fun k => spec_Matches.f k p c) (matchOf p c) := by
  have l0 : isPattern p = true → Ev (fun k => spec_Matches.l0 k p c ([] : List Bool)  0) ((pileF c [] p).getD 0 false) := by
    intro hp
    have h20 := isPattern_pos hp
    have hpat : patF 0 p = some 1 := by simp [isPattern] at hp; exact hp.1
    refine ev_done (ev_loop (fun k (s : List Bool) i => spec_Matches.l0 k p c s  i) p (fun s r => (pileF c s r).getD 0 false) (fun s i => patF (s.length : Int) (p.drop i) = some 1 ∧ s.length ≤ i) ?_ ?_ [] 0 (by omega) ⟨by simpa using hpat, by simp⟩) rfl
    · rintro s ⟨h1, h2⟩
      rw [drop_end] at h1
      have h3 : (s.length : Int) = 1 := by simpa [patF] using h1
      refine ev_unfold (fun k => rfl) ?_
      simp only [spec_Matches.l0]
      exact ev_neg (by omega) (ev_pos (by omega) (ev_ret rfl))
    · rintro s i hi ⟨h1, h2⟩ ih
      rw [drop_at p i hi] at h1
      obtain ⟨g1, g2, g3, g4, g5, g6⟩ := step_length (c := c) h1
      have ih := ih (stepP c s p[i]) ⟨g1, by omega⟩
      have e : pileF c s (p[i] :: p.drop (i + 1)) = pileF c (stepP c s p[i]) (p.drop (i + 1)) := rfl
      rw [e]
      refine ev_unfold (fun k => rfl) ?_
      simp only [spec_Matches.l0]
      rw [w64next i (by omega), rd_at p i hi]
      refine ev_pos (by omega) (ev_pos (by omega) (ev_ite (fun h => ?_) (fun h => ?_)))
      · have hs := g2 h
        rw [show wrap64 ((s.length : Int) - 1) = ((s.length - 1 : Nat) : Int) by rw [w64 _ (by omega)]; omega, Int.toNat_natCast]
        refine ev_pos (by omega) (ev_pos (by omega) ?_)
        have e2 : s.set (s.length - 1) (!(rdOf false s ((s.length - 1 : Nat) : Int))) = stepP c s p[i] := by
          unfold stepP; rw [if_pos h]; unfold rdOf; rw [Int.toNat_natCast]
        rw [e2]; exact ih
      · refine ev_ite (fun h2 => ?_) (fun h2 => ?_)
        · have hs := g3 h2
          refine ev_pos ⟨hs, by omega⟩ ?_
          have e2 : s.take (s.length - 2) ++ [s.getD (s.length - 2) false && s.getD (s.length - 1) false] = stepP c s p[i] := by
            unfold stepP; rw [if_neg h, if_pos h2]
          rw [e2]; exact ih
        · refine ev_ite (fun h3 => ?_) (fun h3 => ?_)
          · have hs := g4 h3
            refine ev_pos ⟨hs, by omega⟩ ?_
            have e2 : s.take (s.length - 2) ++ [s.getD (s.length - 2) false || s.getD (s.length - 1) false] = stepP c s p[i] := by
              unfold stepP; rw [if_neg h, if_neg h2, if_pos h3]
            rw [e2]; exact ih
          · have hL := g6 h h2 h3
            have hb : -1000 ≤ p[i] ∧ p[i] ≤ 1000 := by
              simp only [isLeaf, Bool.or_eq_true, inR_iff, beq_iff_eq] at hL; omega
            refine ev_eq (spec_l8Value_eq _ _ hb) (ev_pos (by omega) ?_)
            have e2 : s ++ [asksOf p[i] c] = stepP c s p[i] := by
              unfold stepP; rw [if_neg h, if_neg h2, if_neg h3]
            rw [e2]; exact ih
  have j0 : ∀ b, (b = false → isPattern p = true ∧ isCard c = true) → (b = true → ¬ (isPattern p && isCard c) = true) → Ev (fun k => spec_Matches.j0 k p c b) (matchOf p c) := by
    intro b h1 h2
    refine ev_unfold (fun k => rfl) ?_
    simp only [spec_Matches.j0]
    unfold matchOf
    refine ev_ite (fun h => ev_ret ?_) (fun h => ?_)
    · rw [if_neg (h2 h)]
    · rw [Bool.not_eq_true] at h
      obtain ⟨hp, hc⟩ := h1 h
      rw [if_pos (by rw [hp, hc]; rfl)]
      exact l0 hp
  simp only [spec_Matches.f]
  refine Ev.bind (spec_IsPattern_ev p hl) (ev_ite (fun h => ?_) (fun h => ?_))
  · refine ev_eq (spec_IsCard_eq c) (j0 _ (fun e => ⟨h, by simpa using e⟩) (fun e => ?_))
    rw [Bool.not_eq_true'] at e; rw [h, e]; simp
  · refine j0 _ (fun e => by simp at e) (fun _ => ?_)
    simp [h]

theorem spec_MatchSet_ev (p : List Int) (hp : p.length ≤ 1048576000) : Ev (fun k => spec_MatchSet.f k p) (matchSet p) := by
  have key : ∀ (m i : Nat), i + m = 52 → ∀ s : List Int, s.length ≤ i → Ev (fun k => spec_MatchSet.l0 k p s (i : Int)) (s ++ setM p i m) := by
    intro m
    induction m with
    | zero =>
      intro i h s hs
      refine ev_unfold (fun k => rfl) ?_
      simp only [spec_MatchSet.l0]
      exact ev_neg (by omega) (ev_ret (by simp [setM]))
    | succ m ih =>
      intro i h s hs
      refine ev_unfold (fun k => rfl) ?_
      simp only [spec_MatchSet.l0]
      rw [w64next i (by omega)]
      unfold setM
      refine ev_pos (by omega) (Ev.bind (spec_Matches_ev p _ hp) (ev_ite (fun h2 => ?_) (fun h2 => ?_)))
      · rw [if_pos h2]
        exact ev_pos (by omega) (ev_done (ih (i + 1) (by omega) (s ++ [(i : Int)]) (by simp; omega)) (by simp))
      · rw [if_neg h2]
        exact ih (i + 1) (by omega) s (by omega)
  simp only [spec_MatchSet.f]
  exact key 52 0 (by omega) [] (by simp)

theorem laws_toIntS_ev (l : List Int) (hl : l.length ≤ 1048576000) : Ev (fun k => laws_toIntS.f k l) l := by
  simp only [laws_toIntS.f]
  refine ev_pos (by omega) (ev_pos (by omega) ?_)
  refine ev_loop (fun k (s : List Int) i => laws_toIntS.l0 k l s i) l (fun _ _ => l) (fun s i => s.length = l.length ∧ s.take i = l.take i) ?_ ?_ _ 0 (by omega) ⟨by simp, by simp⟩
  · rintro s ⟨h1, h2⟩
    refine ev_unfold (fun k => rfl) ?_
    simp only [laws_toIntS.l0]
    refine ev_neg (by omega) (ev_ret ?_)
    rw [List.take_of_length_le (by omega), List.take_of_length_le (by omega)] at h2
    exact h2
  · rintro s i hi ⟨h1, h2⟩ ih
    refine ev_unfold (fun k => rfl) ?_
    simp only [laws_toIntS.l0]
    refine ev_pos (by omega) (ev_pos (by omega) (ev_pos (by omega) ?_))
    rw [w64next i (by omega), rd_at l i hi, Int.toNat_natCast]
    refine ih _ ⟨by simpa using h1, ?_⟩
    apply List.ext_getElem
    · simp; omega
    · intro j hj1 hj2
      simp at hj1 hj2
      simp only [List.getElem_take, List.getElem_set]
      by_cases hij : i = j
      · subst hij; simp
      · rw [if_neg hij]
        have h3 : (s.take i)[j]'(by simp; omega) = (l.take i)[j]'(by simp; omega) := by simp only [h2]
        simpa using h3

theorem impl_InRange_eq (n a b : Int) : impl_InRange.f n a b = some (inR n a b) := by
  unfold impl_InRange.f inR
  by_cases h : a ≤ n
  · rw [if_pos (by omega)]; simp [h]
  · rw [if_neg (by omega)]; simp [h]

theorem impl_isTest_eq (s : Int) : impl_isTest.f s = some (isLeaf s) := by
  unfold impl_isTest.f isLeaf
  simp only [impl_InRange_eq, Option.bind_some]
  repeat' split
  all_goals simp_all

theorem impl_IsPattern_ev (l : List Int) (hl : l.length ≤ 1048576000) : Ev (fun k => impl_IsPattern.f k l) (isPattern l) := by
  simp only [impl_IsPattern.f]
  refine ev_loop (fun k (s : Int) i => impl_IsPattern.l0 k l s l (l.length : Int) i) l (fun s r => decide (patF s r = some 1) && decide (l.length ≤ 20)) (fun s i => 0 ≤ s ∧ s ≤ i) ?_ ?_ 0 0 (by omega) ⟨by omega, by omega⟩
  · rintro s ⟨h1, h2⟩
    refine ev_unfold (fun k => rfl) ?_
    simp only [impl_IsPattern.l0, impl_InRange_eq, Option.bind_some]
    refine ev_neg (by omega) ?_
    refine ev_ite (fun h => ev_ret ?_) (fun h => ev_ret ?_)
    · rw [inR_iff] at h
      simp [patF]
      by_cases h5 : s = 1
      · simp [h5]; omega
      · simp [h5]
    · rw [inR_iff] at h
      simp [patF]; omega
  · rintro s i hi ⟨h1, h2⟩ ih
    have j1 : ∀ b, (b = true → Ev (fun k => impl_IsPattern.l0 k l s l (l.length : Int) ((i + 1 : Nat) : Int)) (decide (patF s (l.drop (i + 1)) = some 1) && decide (l.length ≤ 20))) → Ev (fun k => impl_IsPattern.j1 k l s l[i] l (l.length : Int) i b) (if b = true then (decide (patF s (l.drop (i + 1)) = some 1) && decide (l.length ≤ 20)) else if l[i] = -2 ∨ l[i] = -3 then (if s ≥ 2 then (decide (patF (s - 1) (l.drop (i + 1)) = some 1) && decide (l.length ≤ 20)) else false) else false) := by
      intro b hb
      refine ev_unfold (fun k => rfl) ?_
      simp only [impl_IsPattern.j1]
      rw [w64next i (by omega), w64 (s - 1) (by omega)]
      refine ev_ite (fun h => ?_) (fun h => ?_)
      · rw [if_pos h]; exact hb h
      · rw [if_neg h]
        refine ev_ite (fun h2 => ?_) (fun h2 => ?_)
        · rw [if_pos (.inl h2)]
          refine ev_ite (fun h3 => ?_) (fun h3 => ?_)
          · rw [if_pos h3]; exact ih _ ⟨by omega, by omega⟩
          · rw [if_neg h3]; exact Ev.now _
        · refine ev_ite (fun h4 => ?_) (fun h4 => ?_)
          · rw [if_pos (.inr h4)]
            refine ev_ite (fun h3 => ?_) (fun h3 => ?_)
            · rw [if_pos h3]; exact ih _ ⟨by omega, by omega⟩
            · rw [if_neg h3]; exact Ev.now _
          · rw [if_neg (by omega)]; exact Ev.now _
    refine ev_unfold (fun k => rfl) ?_
    simp only [impl_IsPattern.l0]
    refine ev_pos (by omega) (ev_pos (by omega) (ev_pos (by omega) (ev_eq (impl_isTest_eq _) ?_)))
    rw [w64next i (by omega), rd_at l i hi, w64 (s + 1) (by omega)]
    unfold patF
    refine ev_ite (fun h => ?_) (fun h => ?_)
    · rw [if_pos h]; exact ih _ ⟨by omega, by omega⟩
    · rw [if_neg h]
      refine ev_ite (fun h2 => ?_) (fun h2 => ?_)
      · rw [if_pos h2]
        refine ev_done (j1 _ (fun _ => ih _ ⟨by omega, by omega⟩)) ?_
        by_cases h3 : s ≥ 1
        · simp [h3]
        · simp [h3]; omega
      · rw [if_neg h2]
        refine ev_done (j1 _ (fun h => by cases h)) ?_
        simp only [Bool.false_eq_true, if_false]
        by_cases h3 : l[i] = -2 ∨ l[i] = -3
        · rw [if_pos h3, if_pos h3]
          by_cases h4 : s ≥ 2
          · rw [if_pos h4, if_pos h4]
          · rw [if_neg h4, if_neg h4]; simp
        · rw [if_neg h3, if_neg h3]; simp

theorem impl_IsCard_eq (c : Int) : impl_IsCard.f c = some (isCard c) := by
  unfold impl_IsCard.f isCard
  rw [impl_InRange_eq]; rfl

theorem impl_SuitOf_eq (c : Int) : impl_SuitOf.f c = some (suitOf c) := by
  unfold impl_SuitOf.f suitOf
  rw [impl_IsCard_eq]
  simp only [Option.bind_some]
  by_cases h : isCard c = true
  · have h2 := (isCard_iff c).1 h
    rw [if_pos h, if_pos h, Int.tdiv_eq_ediv_of_nonneg h2.1, w64 _ (by omega)]
  · rw [if_neg h, if_neg h]

theorem impl_RankOf_eq (c : Int) : impl_RankOf.f c = some (rankOf c) := by
  unfold impl_RankOf.f rankOf
  rw [impl_IsCard_eq]
  simp only [Option.bind_some]
  by_cases h : isCard c = true
  · rw [if_pos h, if_pos h, Int.tmod_eq_emod_of_nonneg ((isCard_iff c).1 h).1]
  · rw [if_neg h, if_neg h]

theorem impl_IsRed_eq (c : Int) : impl_IsRed.f c = some (isRed c) := by
  simp only [impl_IsRed.f, impl_SuitOf_eq, Option.bind_some]
  unfold isRed
  by_cases h : suitOf c = 1
  · rw [if_pos h, h]; rfl
  · rw [if_neg h]
    have e : (suitOf c == 2) = inR (suitOf c) 1 2 := by
      by_cases h2 : suitOf c = 2
      · rw [h2]; rfl
      · rw [(inR_no _ _ _).2 (by omega)]; simp [h2]
    rw [e]

theorem impl_asks_eq (s c : Int) (hs : -1000 ≤ s ∧ s ≤ 1000) : impl_asks.f s c = some (asksOf s c) := by
  simp only [impl_asks.f, impl_IsRed_eq, impl_RankOf_eq, impl_SuitOf_eq, Option.bind_some]
  unfold asksOf
  by_cases h : s = 400
  · rw [if_pos h, if_pos h]
  rw [if_neg h, if_neg h]
  by_cases h2 : s ≥ 300
  · rw [if_pos h2, if_pos h2, w64 _ (by omega)]
  rw [if_neg h2, if_neg h2]
  by_cases h3 : s ≥ 200
  · rw [if_pos h3, if_pos h3, w64 _ (by omega)]; rfl
  rw [if_neg h3, if_neg h3, w64 _ (by omega)]; rfl

theorem impl_Matches_ev (p : List Int) (c : Int) (hl : p.length ≤ 1048576000) : Ev (fun k => impl_Matches.f k p c) (matchOf p c) := by
  have l0 : isPattern p = true → Ev (fun k => impl_Matches.l0 k c ([] : List Bool) p (p.length : Int) 0) ((pileF c [] p).getD 0 false) := by
    intro hp
    have h20 := isPattern_pos hp
    have hpat : patF 0 p = some 1 := by simp [isPattern] at hp; exact hp.1
    refine ev_done (ev_loop (fun k (s : List Bool) i => impl_Matches.l0 k c s p (p.length : Int) i) p (fun s r => (pileF c s r).getD 0 false) (fun s i => patF (s.length : Int) (p.drop i) = some 1 ∧ s.length ≤ i) ?_ ?_ [] 0 (by omega) ⟨by simpa using hpat, by simp⟩) rfl
    · rintro s ⟨h1, h2⟩
      rw [drop_end] at h1
      have h3 : (s.length : Int) = 1 := by simpa [patF] using h1
      refine ev_unfold (fun k => rfl) ?_
      simp only [impl_Matches.l0]
      exact ev_neg (by omega) (ev_pos (by omega) (ev_ret rfl))
    · rintro s i hi ⟨h1, h2⟩ ih
      rw [drop_at p i hi] at h1
      obtain ⟨g1, g2, g3, g4, g5, g6⟩ := step_length (c := c) h1
      have ih := ih (stepP c s p[i]) ⟨g1, by omega⟩
      have e : pileF c s (p[i] :: p.drop (i + 1)) = pileF c (stepP c s p[i]) (p.drop (i + 1)) := rfl
      rw [e]
      refine ev_unfold (fun k => rfl) ?_
      simp only [impl_Matches.l0]
      rw [w64next i (by omega), rd_at p i hi]
      refine ev_pos (by omega) (ev_pos (by omega) (ev_pos (by omega) (ev_ite (fun h => ?_) (fun h => ?_))))
      · have hs := g2 h
        rw [show wrap64 ((s.length : Int) - 1) = ((s.length - 1 : Nat) : Int) by rw [w64 _ (by omega)]; omega, Int.toNat_natCast]
        refine ev_pos (by omega) (ev_pos (by omega) ?_)
        have e2 : s.set (s.length - 1) (!(rdOf false s ((s.length - 1 : Nat) : Int))) = stepP c s p[i] := by
          unfold stepP; rw [if_pos h]; unfold rdOf; rw [Int.toNat_natCast]
        rw [e2]; exact ih
      · refine ev_ite (fun h2 => ?_) (fun h2 => ?_)
        · have hs := g3 h2
          refine ev_pos ⟨hs, by omega⟩ ?_
          have e2 : s.take (s.length - 2) ++ [s.getD (s.length - 2) false && s.getD (s.length - 1) false] = stepP c s p[i] := by
            unfold stepP; rw [if_neg h, if_pos h2]
          rw [e2]; exact ih
        · refine ev_ite (fun h3 => ?_) (fun h3 => ?_)
          · have hs := g4 h3
            refine ev_pos ⟨hs, by omega⟩ ?_
            have e2 : s.take (s.length - 2) ++ [s.getD (s.length - 2) false || s.getD (s.length - 1) false] = stepP c s p[i] := by
              unfold stepP; rw [if_neg h, if_neg h2, if_pos h3]
            rw [e2]; exact ih
          · have hL := g6 h h2 h3
            have hb : -1000 ≤ p[i] ∧ p[i] ≤ 1000 := by
              simp only [isLeaf, Bool.or_eq_true, inR_iff, beq_iff_eq] at hL; omega
            refine ev_eq (impl_asks_eq _ _ hb) (ev_pos (by omega) ?_)
            have e2 : s ++ [asksOf p[i] c] = stepP c s p[i] := by
              unfold stepP; rw [if_neg h, if_neg h2, if_neg h3]
            rw [e2]; exact ih
  have j0 : ∀ b, (b = false → isPattern p = true ∧ isCard c = true) → (b = true → ¬ (isPattern p && isCard c) = true) → Ev (fun k => impl_Matches.j0 k p c b) (matchOf p c) := by
    intro b h1 h2
    refine ev_unfold (fun k => rfl) ?_
    simp only [impl_Matches.j0]
    unfold matchOf
    refine ev_ite (fun h => ev_ret ?_) (fun h => ?_)
    · rw [if_neg (h2 h)]
    · rw [Bool.not_eq_true] at h
      obtain ⟨hp, hc⟩ := h1 h
      rw [if_pos (by rw [hp, hc]; rfl)]
      exact l0 hp
  simp only [impl_Matches.f]
  refine Ev.bind (impl_IsPattern_ev p hl) (ev_ite (fun h => ?_) (fun h => ?_))
  · refine ev_eq (impl_IsCard_eq c) (j0 _ (fun e => ⟨h, by simpa using e⟩) (fun e => ?_))
    rw [Bool.not_eq_true'] at e; rw [h, e]; simp
  · refine j0 _ (fun e => by simp at e) (fun _ => ?_)
    simp [h]

theorem impl_MatchSet_ev (p : List Int) (hp : p.length ≤ 1048576000) : Ev (fun k => impl_MatchSet.f k p) (matchSet p) := by
  have key : ∀ (m i : Nat), i + m = 52 → ∀ s : List Int, s.length ≤ i → Ev (fun k => impl_MatchSet.l0 k p s (i : Int)) (s ++ setM p i m) := by
    intro m
    induction m with
    | zero =>
      intro i h s hs
      refine ev_unfold (fun k => rfl) ?_
      simp only [impl_MatchSet.l0]
      exact ev_neg (by omega) (ev_ret (by simp [setM]))
    | succ m ih =>
      intro i h s hs
      refine ev_unfold (fun k => rfl) ?_
      simp only [impl_MatchSet.l0]
      rw [w64next i (by omega)]
      unfold setM
      refine ev_pos (by omega) (Ev.bind (impl_Matches_ev p _ hp) (ev_ite (fun h2 => ?_) (fun h2 => ?_)))
      · rw [if_pos h2]
        exact ev_pos (by omega) (ev_done (ih (i + 1) (by omega) (s ++ [(i : Int)]) (by simp; omega)) (by simp))
      · rw [if_neg h2]
        exact ih (i + 1) (by omega) s (by omega)
  simp only [impl_MatchSet.f]
  exact key 52 0 (by omega) [] (by simp)

theorem laws_eqIntS_ev (a b : List Int) (ha : a.length ≤ 1048576000) : Ev (fun k => laws_eqIntS.f k a b) (decide (a = b)) := by
  simp only [laws_eqIntS.f]
  refine ev_ite (fun hlen => ?_) (fun hne => ev_ret ?_)
  · have hlen' : a.length = b.length := by omega
    have h := ev_loop (fun k (_ : Unit) i => laws_eqIntS.l0 k a b i) a (fun _ r => decide (r = b.drop (a.length - r.length))) (fun _ _ => True) ?_ ?_ () 0 (by omega) trivial
    · refine ev_done h ?_
      simp
    · rintro _ _
      refine ev_unfold (fun k => rfl) ?_
      simp only [laws_eqIntS.l0]
      refine ev_neg (by omega) (ev_ret ?_)
      rw [List.length_nil, Nat.sub_zero, hlen', drop_end]
      simp
    · rintro _ i hi _ ih
      refine ev_unfold (fun k => rfl) ?_
      simp only [laws_eqIntS.l0]
      refine ev_pos (by omega) (ev_pos (by omega) (ev_pos (by omega) ?_))
      rw [w64next i (by omega), rd_at a i hi, rd_at b i (by omega)]
      have e1 : a.length - (a[i] :: a.drop (i + 1)).length = i := by simp; omega
      have e2 : a.length - (a.drop (i + 1)).length = i + 1 := by simp; omega
      refine ev_ite (fun heq => ?_) (fun hne => ev_ret ?_)
      · refine ev_done (ih () trivial) ?_
        rw [e1, e2, drop_at b i (by omega), heq]
        exact decide_eq_decide.2 ⟨fun h => by rw [h], fun h => (List.cons.inj h).2⟩
      · rw [e1, drop_at b i (by omega)]
        exact (decide_eq_false (fun h => hne (List.cons.inj h).1)).symm
  · have : a ≠ b := by rintro rfl; exact hne rfl
    simp [this]

theorem laws_markIntS_ev (l : List Int) (a : Int) (hl : l.length ≤ 1073741824) (ha : 0 ≤ a ∧ a ≤ 1073741824) : Ev (fun k => laws_markIntS.f k l a) (a + (l.length : Int), marks a l.length) := by
  simp only [laws_markIntS.f]
  refine ev_loop (fun k (s : List Int × Int) i => laws_markIntS.l0 k s.1 s.2 i) l (fun _ _ => (a + (l.length : Int), marks a l.length)) (fun s i => s.1.length = l.length ∧ s.2 = a + i ∧ s.1.take i = marks a i) ?_ ?_ (l, a) 0 (by omega) ⟨rfl, by simp, by simp [marks]⟩
  · rintro ⟨s, n⟩ ⟨h1, h2, h3⟩
    simp only at h1 h2 h3
    refine ev_unfold (fun k => rfl) ?_
    simp only [laws_markIntS.l0]
    refine ev_neg (by omega) (ev_ret ?_)
    rw [List.take_of_length_le (by omega)] at h3
    rw [h2, h3]
  · rintro ⟨s, n⟩ i hi ⟨h1, h2, h3⟩ ih
    simp only at h1 h2 h3
    refine ev_unfold (fun k => rfl) ?_
    simp only [laws_markIntS.l0]
    refine ev_pos (by omega) (ev_pos (by omega) ?_)
    rw [w64next i (by omega), Int.toNat_natCast, w64 (n + 1) (by omega)]
    refine ih (s.set i n, n + 1) ⟨by simpa using h1, by simp only; omega, ?_⟩
    simp only [h2]
    exact marks_step a s i (by omega) h3

theorem laws_heldIntS_ev (n : Nat) (a : Int) (hn : n ≤ 1073741824) (ha : 0 ≤ a ∧ a ≤ 1073741824) : Ev (fun k => laws_heldIntS.f k (marks a n) a) (a + (n : Int)) := by
  have hl := marks_length a n
  simp only [laws_heldIntS.f]
  refine ev_loop (fun k (s : Int) i => laws_heldIntS.l0 k (marks a n) s i) (marks a n) (fun _ _ => a + (n : Int)) (fun s i => s = a + i) ?_ ?_ a 0 (by omega) (by simp)
  · rintro s h
    refine ev_unfold (fun k => rfl) ?_
    simp only [laws_heldIntS.l0]
    refine ev_neg (by omega) (ev_ret ?_)
    rw [h, hl]
  · rintro s i hi h ih
    refine ev_unfold (fun k => rfl) ?_
    simp only [laws_heldIntS.l0]
    refine ev_pos (by omega) (ev_pos (by omega) ?_)
    rw [w64next i (by omega), rd_at _ i hi, marks_at, w64 (s + 1) (by omega)]
    refine ev_pos h.symm (ih _ (by omega))

theorem FnExactMatchSet : laws_FnExactMatchSet.Pure := by
  intro l _ _ _
  refine Ev.rounds ?_
  simp only [laws_FnExactMatchSet.f]
  refine ev_ite (fun _ => Ev.now _) (fun h => ?_)
  have hl : l.length ≤ 1048576000 := by omega
  have hg : (matchSet l).length ≤ 52 := setM_length l 52 0
  have eqs := laws_eqIntS_ev (matchSet l) (matchSet l) (by omega)
  have es := spec_MatchSet_ev l (by omega)
  have ei := impl_MatchSet_ev l (by omega)
  have j0 : Ev (fun k => laws_FnExactMatchSet.j0 k l (matchSet l) (matchSet l) false) true := by
    refine ev_unfold (fun k => rfl) ?_
    simp only [laws_FnExactMatchSet.j0]
    refine ev_neg (by simp) (Ev.bind (laws_markIntS_ev _ 1 (by omega) (by omega)) (Ev.bind (laws_heldIntS_ev _ 1 (by omega) (by omega)) (ev_neg (by omega) (ev_pos rfl ?_))))
    refine Ev.bind (laws_toIntS_ev l hl) (Ev.bind ei (Ev.bind eqs (ev_pos (by simp) ?_)))
    exact Ev.bind (laws_heldIntS_ev _ 1 (by omega) (by omega)) (ev_neg (by omega) (ev_pos rfl (Ev.now _)))
  refine Ev.bind (laws_toIntS_ev l hl) (Ev.bind es (Ev.bind (laws_toIntS_ev l hl) (Ev.bind ei (Ev.bind eqs (ev_pos (by simp) ?_)))))
  refine Ev.bind (laws_toIntS_ev l hl) (Ev.bind (laws_eqIntS_ev l l (by omega)) (ev_pos (by simp) ?_))
  refine Ev.bind (laws_markIntS_ev l 1 (by omega) (by omega)) (ev_neg (by simp only; omega) (Ev.bind eqs ?_))
  refine ev_done (Ev.congr (fun k => ?_) j0) rfl
  simp

end Go.Proofs.Ytjnepcpjhhebaaa.Pure
