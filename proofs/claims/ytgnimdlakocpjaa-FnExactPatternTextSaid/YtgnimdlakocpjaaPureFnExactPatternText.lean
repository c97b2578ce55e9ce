/- In the given program FnExactPatternText answers true for every input, by what its functions compute; no condition. -/
import Derived.Test.YtgnimdlakocpjaaQFnExactPatternTextx5
import Derived.Test.YtgnimdlakocpjaaLib
import Derived.Test.YtgnimdlakocpjaaCards
import Derived.Test.YtgnimdlakocpjaaCards2
import Derived.Test.YtgnimdlakocpjaaCalls
import Derived.Test.YtgnimdlakocpjaaHands
import Derived.Test.YtgnimdlakocpjaaPats
import Derived.Test.YtgnimdlakocpjaaSort
import Derived.Test.YtgnimdlakocpjaaParse
import Derived.Test.YtgnimdlakocpjaaPatText
namespace Go.Proofs.Ytgnimdlakocpjaa.Pure
open Go.RowKit Go.Proofs.Ytgnimdlakocpjaa.QFnExactPatternText Go.Proofs.YtgnimdlakocpjaaW.PrintWords Go.Proofs.YtgnimdlakocpjaaW.PrintLast Go.Proofs.YtgnimdlakocpjaaW.PrintMore Go.Proofs.Ytgnimdlakocpjaa.Lib
set_option linter.unusedVariables false
set_option linter.unusedSimpArgs false

theorem laws_toIntS_ev (l : List Int) (hl : l.length ≤ 1048576000) : Ev (fun k => laws_toIntS.f k l) l := by
  simp only [laws_toIntS.f]
  refine ev_pos (by omega) (ev_pos (by omega) ?_)
  refine ev_loop (fun k (s : List Int) i => laws_toIntS.l0 k l s i) l (fun _ _ => l) (fun s i => s.length = l.length ∧ s.take i = l.take i) ?_ ?_ _ 0 (by omega) ⟨by simp, by simp⟩
  · rintro s ⟨h1, h2⟩
    refine ev_unfold (fun k => rfl) ?_
    simp only [laws_toIntS.l0]
    refine ev_neg (by omega) (ev_ret ?_)
    rw [List.take_of_length_le (by omega), List.take_of_length_le (by omega)] at h2
    exact h2
  · rintro s i hi ⟨h1, h2⟩ ih
    refine ev_unfold (fun k => rfl) ?_
    simp only [laws_toIntS.l0]
    refine ev_pos (by omega) (ev_pos (by omega) (ev_pos (by omega) ?_))
    rw [w64next i (by omega), rd_at l i hi, Int.toNat_natCast]
    refine ih _ ⟨by simpa using h1, ?_⟩
    apply List.ext_getElem
    · simp; omega
    · intro j hj1 hj2
      simp at hj1 hj2
      simp only [List.getElem_take, List.getElem_set]
      by_cases hij : i = j
      · subst hij; simp
      · rw [if_neg hij]
        have h3 : (s.take i)[j]'(by simp; omega) = (l.take i)[j]'(by simp; omega) := by simp only [h2]
        simpa using h3

theorem laws_eqIntS_ev (a b : List Int) (ha : a.length ≤ 1048576000) : Ev (fun k => laws_eqIntS.f k a b) (decide (a = b)) := by
  simp only [laws_eqIntS.f]
  refine ev_ite (fun hlen => ?_) (fun hne => ev_ret ?_)
  · have hlen' : a.length = b.length := by omega
    have h := ev_loop (fun k (_ : Unit) i => laws_eqIntS.l0 k a b i) a (fun _ r => decide (r = b.drop (a.length - r.length))) (fun _ _ => True) ?_ ?_ () 0 (by omega) trivial
    · refine ev_done h ?_
      simp
    · rintro _ _
      refine ev_unfold (fun k => rfl) ?_
      simp only [laws_eqIntS.l0]
      refine ev_neg (by omega) (ev_ret ?_)
      rw [List.length_nil, Nat.sub_zero, hlen', drop_end]
      simp
    · rintro _ i hi _ ih
      refine ev_unfold (fun k => rfl) ?_
      simp only [laws_eqIntS.l0]
      refine ev_pos (by omega) (ev_pos (by omega) (ev_pos (by omega) ?_))
      rw [w64next i (by omega), rd_at a i hi, rd_at b i (by omega)]
      have e1 : a.length - (a[i] :: a.drop (i + 1)).length = i := by simp; omega
      have e2 : a.length - (a.drop (i + 1)).length = i + 1 := by simp; omega
      refine ev_ite (fun heq => ?_) (fun hne => ev_ret ?_)
      · refine ev_done (ih () trivial) ?_
        rw [e1, e2, drop_at b i (by omega), heq]
        exact decide_eq_decide.2 ⟨fun h => by rw [h], fun h => (List.cons.inj h).2⟩
      · rw [e1, drop_at b i (by omega)]
        exact (decide_eq_false (fun h => hne (List.cons.inj h).1)).symm
  · have : a ≠ b := by rintro rfl; exact hne rfl
    simp [this]

theorem impl_InRange_eq (n a b : Int) : impl_InRange.f n a b = some (inR n a b) := by
  unfold impl_InRange.f inR
  by_cases h : a ≤ n
  · rw [if_pos (by omega)]; simp [h]
  · rw [if_neg (by omega)]; simp [h]

theorem impl_isTest_eq (s : Int) : impl_isTest.f s = some (isLeaf s) := by
  unfold impl_isTest.f isLeaf
  simp only [impl_InRange_eq, Option.bind_some]
  repeat' split
  all_goals simp_all

theorem impl_IsPattern_ev (l : List Int) (hl : l.length ≤ 1048576000) : Ev (fun k => impl_IsPattern.f k l) (isPattern l) := by
  simp only [impl_IsPattern.f]
  refine ev_loop (fun k (s : Int) i => impl_IsPattern.l0 k l s l (l.length : Int) i) l (fun s r => decide (patF s r = some 1) && decide (l.length ≤ 20)) (fun s i => 0 ≤ s ∧ s ≤ i) ?_ ?_ 0 0 (by omega) ⟨by omega, by omega⟩
  · rintro s ⟨h1, h2⟩
    refine ev_unfold (fun k => rfl) ?_
    simp only [impl_IsPattern.l0, impl_InRange_eq, Option.bind_some]
    refine ev_neg (by omega) ?_
    refine ev_ite (fun h => ev_ret ?_) (fun h => ev_ret ?_)
    · rw [inR_iff] at h
      simp [patF]
      by_cases h5 : s = 1
      · simp [h5]; omega
      · simp [h5]
    · rw [inR_iff] at h
      simp [patF]; omega
  · rintro s i hi ⟨h1, h2⟩ ih
    have j1 : ∀ b, (b = true → Ev (fun k => impl_IsPattern.l0 k l s l (l.length : Int) ((i + 1 : Nat) : Int)) (decide (patF s (l.drop (i + 1)) = some 1) && decide (l.length ≤ 20))) → Ev (fun k => impl_IsPattern.j1 k l s l[i] l (l.length : Int) i b) (if b = true then (decide (patF s (l.drop (i + 1)) = some 1) && decide (l.length ≤ 20)) else if l[i] = -2 ∨ l[i] = -3 then (if s ≥ 2 then (decide (patF (s - 1) (l.drop (i + 1)) = some 1) && decide (l.length ≤ 20)) else false) else false) := by
      intro b hb
      refine ev_unfold (fun k => rfl) ?_
      simp only [impl_IsPattern.j1]
      rw [w64next i (by omega), w64 (s - 1) (by omega)]
      refine ev_ite (fun h => ?_) (fun h => ?_)
      · rw [if_pos h]; exact hb h
      · rw [if_neg h]
        refine ev_ite (fun h2 => ?_) (fun h2 => ?_)
        · rw [if_pos (.inl h2)]
          refine ev_ite (fun h3 => ?_) (fun h3 => ?_)
          · rw [if_pos h3]; exact ih _ ⟨by omega, by omega⟩
          · rw [if_neg h3]; exact Ev.now _
        · refine ev_ite (fun h4 => ?_) (fun h4 => ?_)
          · rw [if_pos (.inr h4)]
            refine ev_ite (fun h3 => ?_) (fun h3 => ?_)
            · rw [if_pos h3]; exact ih _ ⟨by omega, by omega⟩
            · rw [if_neg h3]; exact Ev.now _
          · rw [if_neg (by omega)]; exact Ev.now _
    refine ev_unfold (fun k => rfl) ?_
    simp only [impl_IsPattern.l0]
    refine ev_pos (by omega) (ev_pos (by omega) (ev_pos (by omega) (ev_eq (impl_isTest_eq _) ?_)))
    rw [w64next i (by omega), rd_at l i hi, w64 (s + 1) (by omega)]
    unfold patF
    refine ev_ite (fun h => ?_) (fun h => ?_)
    · rw [if_pos h]; exact ih _ ⟨by omega, by omega⟩
    · rw [if_neg h]
      refine ev_ite (fun h2 => ?_) (fun h2 => ?_)
      · rw [if_pos h2]
        refine ev_done (j1 _ (fun _ => ih _ ⟨by omega, by omega⟩)) ?_
        by_cases h3 : s ≥ 1
        · simp [h3]
        · simp [h3]; omega
      · rw [if_neg h2]
        refine ev_done (j1 _ (fun h => by cases h)) ?_
        simp only [Bool.false_eq_true, if_false]
        by_cases h3 : l[i] = -2 ∨ l[i] = -3
        · rw [if_pos h3, if_pos h3]
          by_cases h4 : s ≥ 2
          · rw [if_pos h4, if_pos h4]
          · rw [if_neg h4, if_neg h4]; simp
        · rw [if_neg h3, if_neg h3]; simp

theorem impl_signText_eq (s : Int) (h : isLeaf s = true) : impl_signText.f s = some (signText s) := by
  have hc := leaf_cases h
  have e43 : (⟨#[43]⟩ : ByteArray).size = 1 := rfl
  have e1 : (⟨#[50, 51, 52, 53, 54, 55, 56, 57, 84, 74, 81, 75, 65]⟩ : ByteArray) = rankLetters := rfl
  have e2 : (⟨#[99, 100, 104, 115]⟩ : ByteArray) = suitLetters := rfl
  have hr := rankLetters_size
  have hs := suitLetters_size
  unfold impl_signText.f signText
  rw [e2]
  by_cases h4 : s = 400
  · rw [if_pos h4, if_pos h4]
  · rw [if_neg h4, if_neg h4]
    by_cases h3 : s ≥ 300
    · rw [if_pos h3, if_pos h3, w64 (s - 300) (by omega)]
      rw [e1, w64 (s - 300 + 1) (by omega), if_pos (by omega), if_pos (by omega), if_pos (by omega)]
      have hz := letter_size rankLetters (s - 300) (by omega) (by omega)
      unfold letter at hz ⊢
      rw [if_pos (by omega)]
    · rw [if_neg h3, if_neg h3]
      by_cases h2 : s ≥ 200
      · rw [if_pos h2, if_pos h2, w64 (s - 200) (by omega)]
        rw [e1, w64 (s - 200 + 1) (by omega), if_pos (by omega), if_pos (by omega), if_pos (by omega)]
        rfl
      · rw [if_neg h2, if_neg h2, w64 (s - 100) (by omega), w64 (s - 100 + 1) (by omega), if_pos (by omega), if_pos (by omega), if_pos (by omega)]
        rfl

theorem impl_PatternText_ev (p : List Int) (hl : p.length ≤ 1048576000) : Ev (fun k => impl_PatternText.f k p) (patText p) := by
  have e33 : (⟨#[33]⟩ : ByteArray).size = 1 := rfl
  have e40 : (⟨#[40]⟩ : ByteArray).size = 1 := rfl
  have e38 : (⟨#[38]⟩ : ByteArray).size = 1 := rfl
  have e41 : (⟨#[41]⟩ : ByteArray).size = 1 := rfl
  have e124 : (⟨#[124]⟩ : ByteArray).size = 1 := rfl
  have l0 : isPattern p = true → Ev (fun k => impl_PatternText.l0 k ([] : List ByteArray) p (p.length : Int) 0) ((pileT [] p).getD 0 ByteArray.empty) := by
    intro hp
    have h20 := isPattern_pos hp
    have hpat : patF 0 p = some 1 := by simp [isPattern] at hp; exact hp.1
    refine ev_done (ev_loop (fun k (s : List ByteArray) i => impl_PatternText.l0 k s p (p.length : Int) i) p (fun s r => (pileT s r).getD 0 ByteArray.empty) (fun s i => patF (s.length : Int) (p.drop i) = some 1 ∧ s.length ≤ i ∧ i ≤ 20 ∧ ∀ x ∈ s, x.size + 3 ≤ 3 * 2 ^ i) ?_ ?_ [] 0 (by omega) ⟨by simpa using hpat, by simp, by omega, by simp⟩) rfl
    · rintro s ⟨h1, h2, _, _⟩
      rw [drop_end] at h1
      have h3 : (s.length : Int) = 1 := by simpa [patF] using h1
      refine ev_unfold (fun k => rfl) ?_
      simp only [impl_PatternText.l0]
      exact ev_neg (by omega) (ev_pos (by omega) (ev_ret rfl))
    · rintro s i hi ⟨h1, h2, hi2, hsz⟩ ih
      rw [drop_at p i hi] at h1
      obtain ⟨g1, g2, g3, g4, g5, g6⟩ := stepX_length h1
      have hpow : 2 ^ i ≤ 2 ^ 20 := Nat.pow_le_pow_right (by omega) hi2
      have hpos : 1 ≤ 2 ^ i := Nat.one_le_two_pow
      have k1 := topT_size hsz (by omega) 1
      have k2 := topT_size hsz (by omega) 2
      have ih := ih (stepX s p[i]) ⟨g1, by omega, by omega, fun x hx => by have := stepX_size hsz (by omega) g6 x hx; rw [Nat.pow_succ]; omega⟩
      have e : pileT s (p[i] :: p.drop (i + 1)) = pileT (stepX s p[i]) (p.drop (i + 1)) := rfl
      rw [e]
      refine ev_unfold (fun k => rfl) ?_
      simp only [impl_PatternText.l0, Option.bind_some]
      rw [w64next i (by omega), rd_at p i hi]
      refine ev_pos (by omega) (ev_pos (by omega) (ev_pos (by omega) (ev_ite (fun h => ?_) (fun h => ?_))))
      · have hs := g2 h
        have ew : wrap64 ((s.length : Int) - 1) = ((s.length - 1 : Nat) : Int) := by rw [w64 _ (by omega)]; omega
        have er : rdOf ByteArray.empty s ((s.length - 1 : Nat) : Int) = topT s 1 := by unfold rdOf topT; rw [Int.toNat_natCast]
        rw [ew, er, Int.toNat_natCast]
        refine ev_pos (by omega) (ev_pos (by omega) (ev_pos (by omega) ?_))
        have e2 : s.set (s.length - 1) ((⟨#[33]⟩ : ByteArray) ++ topT s 1) = stepX s p[i] := by unfold stepX; rw [if_pos h]
        rw [e2]; exact ih
      · have two : ∀ (hs : 2 ≤ s.length), wrap64 ((s.length : Int) - 2) = ((s.length - 2 : Nat) : Int) ∧ wrap64 ((s.length : Int) - 1) = ((s.length - 1 : Nat) : Int) ∧ rdOf ByteArray.empty s ((s.length - 2 : Nat) : Int) = topT s 2 ∧ rdOf ByteArray.empty s ((s.length - 1 : Nat) : Int) = topT s 1 := by
          intro hs
          refine ⟨by rw [w64 _ (by omega)]; omega, by rw [w64 _ (by omega)]; omega, ?_, ?_⟩
          · unfold rdOf topT; rw [Int.toNat_natCast]
          · unfold rdOf topT; rw [Int.toNat_natCast]
        refine ev_ite (fun h2 => ?_) (fun h2 => ?_)
        · have hs := g3 h2
          obtain ⟨w2, w1, r2, r1⟩ := two hs
          rw [w2, w1, r2, r1, Int.toNat_natCast]
          simp only [ByteArray.size_append]
          refine ev_pos (by omega) (ev_pos (by omega) (ev_pos (by omega) (ev_pos (by omega) (ev_pos (by omega) (ev_pos (by omega) (ev_pos (by omega) (ev_pos (by omega) (ev_pos (by omega) (ev_pos (by rw [List.length_take]; omega) ?_)))))))))
          have e2 : s.take (s.length - 2) ++ [⟨#[40]⟩ ++ topT s 2 ++ ⟨#[38]⟩ ++ topT s 1 ++ ⟨#[41]⟩] = stepX s p[i] := by unfold stepX; rw [if_neg h, if_pos h2]
          rw [e2]; exact ih
        · refine ev_ite (fun h3 => ?_) (fun h3 => ?_)
          · have hs := g4 h3
            obtain ⟨w2, w1, r2, r1⟩ := two hs
            rw [w2, w1, r2, r1, Int.toNat_natCast]
            simp only [ByteArray.size_append]
            refine ev_pos (by omega) (ev_pos (by omega) (ev_pos (by omega) (ev_pos (by omega) (ev_pos (by omega) (ev_pos (by omega) (ev_pos (by omega) (ev_pos (by omega) (ev_pos (by omega) (ev_pos (by rw [List.length_take]; omega) ?_)))))))))
            have e2 : s.take (s.length - 2) ++ [⟨#[40]⟩ ++ topT s 2 ++ ⟨#[124]⟩ ++ topT s 1 ++ ⟨#[41]⟩] = stepX s p[i] := by unfold stepX; rw [if_neg h, if_neg h2, if_pos h3]
            rw [e2]; exact ih
          · have hL := g6 h h2 h3
            refine ev_eq (impl_signText_eq _ hL) (ev_pos (by omega) ?_)
            have e2 : s ++ [signText p[i]] = stepX s p[i] := by unfold stepX; rw [if_neg h, if_neg h2, if_neg h3]
            rw [e2]; exact ih
  simp only [impl_PatternText.f]
  unfold patText
  refine Ev.bind (impl_IsPattern_ev p hl) (ev_ite (fun h => ?_) (fun h => ev_ret ?_))
  · rw [if_pos h]; exact l0 h
  · rw [if_neg h]

theorem spec_l1In_eq (n a b : Int) : spec_l1In.f n a b = some (inR n a b) := by
  unfold spec_l1In.f inR
  by_cases h : a ≤ n
  · rw [if_pos (by omega)]; simp [h]
  · rw [if_neg (by omega)]; simp [h]

theorem spec_l8Leaf_eq (s : Int) : spec_l8Leaf.f s = some (isLeaf s) := by
  unfold spec_l8Leaf.f isLeaf
  simp only [spec_l1In_eq, Option.bind_some]
  repeat' split
  all_goals simp_all

theorem spec_IsPattern_ev (l : List Int) (hl : l.length ≤ 1048576000) : Ev (fun k => spec_IsPattern.f k l) (isPattern l) := by
  simp only [spec_IsPattern.f]
  refine ev_loop (fun k (s : Int) i => spec_IsPattern.l0 k l s i) l (fun s r => decide (patF s r = some 1) && decide (l.length ≤ 20)) (fun s i => 0 ≤ s ∧ s ≤ i) ?_ ?_ 0 0 (by omega) ⟨by omega, by omega⟩
  · rintro s ⟨h1, h2⟩
    refine ev_unfold (fun k => rfl) ?_
    simp only [spec_IsPattern.l0]
    refine ev_neg (by omega) ?_
    refine ev_ite (fun h => ev_ret ?_) (fun h => ev_ret ?_)
    · simp [patF, h]; omega
    · simp [patF, h]
  · rintro s i hi ⟨h1, h2⟩ ih
    have j1 : ∀ b, (b = true → Ev (fun k => spec_IsPattern.l0 k l s ((i + 1 : Nat) : Int)) (decide (patF s (l.drop (i + 1)) = some 1) && decide (l.length ≤ 20))) → Ev (fun k => spec_IsPattern.j1 k l s i b) (if b = true then (decide (patF s (l.drop (i + 1)) = some 1) && decide (l.length ≤ 20)) else if l[i] = -2 ∨ l[i] = -3 then (if s ≥ 2 then (decide (patF (s - 1) (l.drop (i + 1)) = some 1) && decide (l.length ≤ 20)) else false) else false) := by
      intro b hb
      refine ev_unfold (fun k => rfl) ?_
      simp only [spec_IsPattern.j1]
      rw [w64next i (by omega), rd_at l i hi, w64 (s - 1) (by omega)]
      refine ev_ite (fun h => ?_) (fun h => ?_)
      · rw [if_pos h]; exact hb h
      · rw [if_neg h]
        refine ev_pos (by omega) (ev_pos (by omega) ?_)
        refine ev_ite (fun h2 => ?_) (fun h2 => ?_)
        · rw [if_pos (.inl h2)]
          refine ev_ite (fun h3 => ?_) (fun h3 => ?_)
          · rw [if_pos h3]; exact ih _ ⟨by omega, by omega⟩
          · rw [if_neg h3]; exact Ev.now _
        · refine ev_ite (fun h4 => ?_) (fun h4 => ?_)
          · rw [if_pos (.inr h4)]
            refine ev_ite (fun h3 => ?_) (fun h3 => ?_)
            · rw [if_pos h3]; exact ih _ ⟨by omega, by omega⟩
            · rw [if_neg h3]; exact Ev.now _
          · rw [if_neg (by omega)]; exact Ev.now _
    refine ev_unfold (fun k => rfl) ?_
    simp only [spec_IsPattern.l0]
    refine ev_pos (by omega) (ev_pos (by omega) (ev_eq (spec_l8Leaf_eq _) ?_))
    rw [w64next i (by omega), rd_at l i hi, w64 (s + 1) (by omega)]
    unfold patF
    refine ev_ite (fun h => ?_) (fun h => ?_)
    · rw [if_pos h]; exact ih _ ⟨by omega, by omega⟩
    · rw [if_neg h]
      refine ev_ite (fun h2 => ?_) (fun h2 => ?_)
      · rw [if_pos h2]
        refine ev_done (j1 _ (fun _ => ih _ ⟨by omega, by omega⟩)) ?_
        by_cases h3 : s ≥ 1
        · simp [h3]
        · simp [h3]; omega
      · rw [if_neg h2]
        refine ev_done (j1 _ (fun h => by cases h)) ?_
        simp only [Bool.false_eq_true, if_false]
        by_cases h3 : l[i] = -2 ∨ l[i] = -3
        · rw [if_pos h3, if_pos h3]
          by_cases h4 : s ≥ 2
          · rw [if_pos h4, if_pos h4]
          · rw [if_neg h4, if_neg h4]; simp
        · rw [if_neg h3, if_neg h3]; simp

theorem spec_l9Rank_eq (r : Int) (h0 : 0 ≤ r) (h1 : r ≤ 12) : spec_l9Rank.f r = some (letter rankLetters r) := by
  have e1 : (⟨#[50, 51, 52, 53, 54, 55, 56, 57, 84, 74, 81, 75, 65]⟩ : ByteArray) = rankLetters := rfl
  unfold spec_l9Rank.f
  rw [e1, w64 (r + 1) (by omega), if_pos h0, if_pos (by omega), if_pos (by omega)]
  rfl

theorem spec_l9Leaf_eq (s : Int) (h : isLeaf s = true) : spec_l9Leaf.f s = some (signText s) := by
  have hc := leaf_cases h
  have e43 : (⟨#[43]⟩ : ByteArray).size = 1 := rfl
  have e1 : (⟨#[50, 51, 52, 53, 54, 55, 56, 57, 84, 74, 81, 75, 65]⟩ : ByteArray) = rankLetters := rfl
  have e2 : (⟨#[99, 100, 104, 115]⟩ : ByteArray) = suitLetters := rfl
  have hr := rankLetters_size
  have hs := suitLetters_size
  unfold spec_l9Leaf.f signText
  rw [e2]
  by_cases h4 : s = 400
  · rw [if_pos h4, if_pos h4]
  · rw [if_neg h4, if_neg h4]
    by_cases h3 : s ≥ 300
    · rw [if_pos h3, if_pos h3, w64 (s - 300) (by omega)]
      rw [spec_l9Rank_eq _ (by omega) (by omega), Option.bind_some, letter_size _ _ (by omega) (by omega), if_pos (by omega)]
    · rw [if_neg h3, if_neg h3]
      by_cases h2 : s ≥ 200
      · rw [if_pos h2, if_pos h2, w64 (s - 200) (by omega)]
        rw [spec_l9Rank_eq _ (by omega) (by omega), Option.bind_some]
      · rw [if_neg h2, if_neg h2, w64 (s - 100) (by omega), w64 (s - 100 + 1) (by omega), if_pos (by omega), if_pos (by omega), if_pos (by omega)]
        rfl

theorem spec_PatternText_ev (p : List Int) (hl : p.length ≤ 1048576000) : Ev (fun k => spec_PatternText.f k p) (patText p) := by
  have e33 : (⟨#[33]⟩ : ByteArray).size = 1 := rfl
  have e40 : (⟨#[40]⟩ : ByteArray).size = 1 := rfl
  have e38 : (⟨#[38]⟩ : ByteArray).size = 1 := rfl
  have e41 : (⟨#[41]⟩ : ByteArray).size = 1 := rfl
  have e124 : (⟨#[124]⟩ : ByteArray).size = 1 := rfl
  have l0 : isPattern p = true → Ev (fun k => spec_PatternText.l0 k p ([] : List ByteArray) 0) ((pileT [] p).getD 0 ByteArray.empty) := by
    intro hp
    have h20 := isPattern_pos hp
    have hpat : patF 0 p = some 1 := by simp [isPattern] at hp; exact hp.1
    refine ev_done (ev_loop (fun k (s : List ByteArray) i => spec_PatternText.l0 k p s i) p (fun s r => (pileT s r).getD 0 ByteArray.empty) (fun s i => patF (s.length : Int) (p.drop i) = some 1 ∧ s.length ≤ i ∧ i ≤ 20 ∧ ∀ x ∈ s, x.size + 3 ≤ 3 * 2 ^ i) ?_ ?_ [] 0 (by omega) ⟨by simpa using hpat, by simp, by omega, by simp⟩) rfl
    · rintro s ⟨h1, h2, _, _⟩
      rw [drop_end] at h1
      have h3 : (s.length : Int) = 1 := by simpa [patF] using h1
      refine ev_unfold (fun k => rfl) ?_
      simp only [spec_PatternText.l0]
      exact ev_neg (by omega) (ev_pos (by omega) (ev_ret rfl))
    · rintro s i hi ⟨h1, h2, hi2, hsz⟩ ih
      rw [drop_at p i hi] at h1
      obtain ⟨g1, g2, g3, g4, g5, g6⟩ := stepX_length h1
      have hpow : 2 ^ i ≤ 2 ^ 20 := Nat.pow_le_pow_right (by omega) hi2
      have hpos : 1 ≤ 2 ^ i := Nat.one_le_two_pow
      have k1 := topT_size hsz (by omega) 1
      have k2 := topT_size hsz (by omega) 2
      have ih := ih (stepX s p[i]) ⟨g1, by omega, by omega, fun x hx => by have := stepX_size hsz (by omega) g6 x hx; rw [Nat.pow_succ]; omega⟩
      have e : pileT s (p[i] :: p.drop (i + 1)) = pileT (stepX s p[i]) (p.drop (i + 1)) := rfl
      rw [e]
      refine ev_unfold (fun k => rfl) ?_
      simp only [spec_PatternText.l0, Option.bind_some]
      rw [w64next i (by omega), rd_at p i hi]
      refine ev_pos (by omega) (ev_pos (by omega) (ev_ite (fun h => ?_) (fun h => ?_)))
      · have hs := g2 h
        have ew : wrap64 ((s.length : Int) - 1) = ((s.length - 1 : Nat) : Int) := by rw [w64 _ (by omega)]; omega
        have er : rdOf ByteArray.empty s ((s.length - 1 : Nat) : Int) = topT s 1 := by unfold rdOf topT; rw [Int.toNat_natCast]
        rw [ew, er, Int.toNat_natCast]
        refine ev_pos (by omega) (ev_pos (by omega) (ev_pos (by omega) ?_))
        have e2 : s.set (s.length - 1) ((⟨#[33]⟩ : ByteArray) ++ topT s 1) = stepX s p[i] := by unfold stepX; rw [if_pos h]
        rw [e2]; exact ih
      · have two : ∀ (hs : 2 ≤ s.length), wrap64 ((s.length : Int) - 2) = ((s.length - 2 : Nat) : Int) ∧ wrap64 ((s.length : Int) - 1) = ((s.length - 1 : Nat) : Int) ∧ rdOf ByteArray.empty s ((s.length - 2 : Nat) : Int) = topT s 2 ∧ rdOf ByteArray.empty s ((s.length - 1 : Nat) : Int) = topT s 1 := by
          intro hs
          refine ⟨by rw [w64 _ (by omega)]; omega, by rw [w64 _ (by omega)]; omega, ?_, ?_⟩
          · unfold rdOf topT; rw [Int.toNat_natCast]
          · unfold rdOf topT; rw [Int.toNat_natCast]
        refine ev_ite (fun h2 => ?_) (fun h2 => ?_)
        · have hs := g3 h2
          obtain ⟨w2, w1, r2, r1⟩ := two hs
          rw [w2, w1, r2, r1, Int.toNat_natCast]
          simp only [ByteArray.size_append]
          refine ev_pos (by omega) (ev_pos (by omega) (ev_pos (by omega) (ev_pos (by omega) (ev_pos (by omega) (ev_pos (by omega) (ev_pos (by omega) (ev_pos (by omega) (ev_pos (by omega) (ev_pos (by rw [List.length_take]; omega) ?_)))))))))
          have e2 : s.take (s.length - 2) ++ [⟨#[40]⟩ ++ topT s 2 ++ ⟨#[38]⟩ ++ topT s 1 ++ ⟨#[41]⟩] = stepX s p[i] := by unfold stepX; rw [if_neg h, if_pos h2]
          rw [e2]; exact ih
        · refine ev_ite (fun h3 => ?_) (fun h3 => ?_)
          · have hs := g4 h3
            obtain ⟨w2, w1, r2, r1⟩ := two hs
            rw [w2, w1, r2, r1, Int.toNat_natCast]
            simp only [ByteArray.size_append]
            refine ev_pos (by omega) (ev_pos (by omega) (ev_pos (by omega) (ev_pos (by omega) (ev_pos (by omega) (ev_pos (by omega) (ev_pos (by omega) (ev_pos (by omega) (ev_pos (by omega) (ev_pos (by rw [List.length_take]; omega) ?_)))))))))
            have e2 : s.take (s.length - 2) ++ [⟨#[40]⟩ ++ topT s 2 ++ ⟨#[124]⟩ ++ topT s 1 ++ ⟨#[41]⟩] = stepX s p[i] := by unfold stepX; rw [if_neg h, if_neg h2, if_pos h3]
            rw [e2]; exact ih
          · have hL := g6 h h2 h3
            refine ev_eq (spec_l9Leaf_eq _ hL) (ev_pos (by omega) ?_)
            have e2 : s ++ [signText p[i]] = stepX s p[i] := by unfold stepX; rw [if_neg h, if_neg h2, if_neg h3]
            rw [e2]; exact ih
  simp only [spec_PatternText.f]
  unfold patText
  refine Ev.bind (spec_IsPattern_ev p hl) (ev_ite (fun h => ?_) (fun h => ev_ret ?_))
  · rw [if_pos h]; exact l0 h
  · rw [if_neg h]

theorem FnExactPatternText : laws_FnExactPatternText.Pure := by
  intro l _ _ _
  refine Ev.rounds ?_
  simp only [laws_FnExactPatternText.f]
  refine ev_ite (fun _ => Ev.now _) (fun h => ?_)
  have hl : l.length ≤ 1048576000 := by omega
  refine Ev.bind (laws_toIntS_ev l hl) (Ev.bind (spec_PatternText_ev l hl) (Ev.bind (laws_toIntS_ev l hl) (Ev.bind (impl_PatternText_ev l hl) (ev_pos rfl ?_))))
  exact Ev.bind (laws_toIntS_ev l hl) (Ev.bind (laws_eqIntS_ev l l (by omega)) (ev_pos (by simp) (Ev.now _)))

end Go.Proofs.Ytgnimdlakocpjaa.Pure
