/- In the given program FnExactNotPattern answers true for every input, by what its functions compute; no condition. -/
import Derived.Test.YtjalkgjjjebdpaaPFnExactNotPatternx3
import Derived.Test.YtjalkgjjjebdpaaLib
import Derived.Test.YtjalkgjjjebdpaaCards
import Derived.Test.YtjalkgjjjebdpaaCards2
namespace Go.Proofs.Ytjalkgjjjebdpaa.Pure
open Go.RowKit Go.Proofs.Ytjalkgjjjebdpaa.PFnExactNotPattern Go.Proofs.YtjalkgjjjebdpaaW.PrintWords Go.Proofs.YtjalkgjjjebdpaaW.PrintLast Go.Proofs.YtjalkgjjjebdpaaW.PrintMore Go.Proofs.Ytjalkgjjjebdpaa.Lib
set_option linter.unusedVariables false
set_option linter.unusedSimpArgs false

theorem laws_toIntS_ev (l : List Int) (hl : l.length ≤ 1048576000) : Ev (fun k => laws_toIntS.f k l) l := by
  simp only [laws_toIntS.f]
  refine ev_pos (by omega) (ev_pos (by omega) ?_)
  refine ev_loop (fun k (s : List Int) i => laws_toIntS.l0 k l s i) l (fun _ _ => l) (fun s i => s.length = l.length ∧ s.take i = l.take i) ?_ ?_ _ 0 (by omega) ⟨by simp, by simp⟩
  · rintro s ⟨h1, h2⟩
    refine ev_unfold (fun k => rfl) ?_
    simp only [laws_toIntS.l0]
    refine ev_neg (by omega) (ev_ret ?_)
    rw [List.take_of_length_le (by omega), List.take_of_length_le (by omega)] at h2
    exact h2
  · rintro s i hi ⟨h1, h2⟩ ih
    refine ev_unfold (fun k => rfl) ?_
    simp only [laws_toIntS.l0]
    refine ev_pos (by omega) (ev_pos (by omega) (ev_pos (by omega) ?_))
    rw [w64next i (by omega), rd_at l i hi, Int.toNat_natCast]
    refine ih _ ⟨by simpa using h1, ?_⟩
    apply List.ext_getElem
    · simp; omega
    · intro j hj1 hj2
      simp at hj1 hj2
      simp only [List.getElem_take, List.getElem_set]
      by_cases hij : i = j
      · subst hij; simp
      · rw [if_neg hij]
        have h3 : (s.take i)[j]'(by simp; omega) = (l.take i)[j]'(by simp; omega) := by simp only [h2]
        simpa using h3

theorem laws_eqIntS_ev (a b : List Int) (ha : a.length ≤ 1048576000) : Ev (fun k => laws_eqIntS.f k a b) (decide (a = b)) := by
  simp only [laws_eqIntS.f]
  refine ev_ite (fun hlen => ?_) (fun hne => ev_ret ?_)
  · have hlen' : a.length = b.length := by omega
    have h := ev_loop (fun k (_ : Unit) i => laws_eqIntS.l0 k a b i) a (fun _ r => decide (r = b.drop (a.length - r.length))) (fun _ _ => True) ?_ ?_ () 0 (by omega) trivial
    · refine ev_done h ?_
      simp
    · rintro _ _
      refine ev_unfold (fun k => rfl) ?_
      simp only [laws_eqIntS.l0]
      refine ev_neg (by omega) (ev_ret ?_)
      rw [List.length_nil, Nat.sub_zero, hlen', drop_end]
      simp
    · rintro _ i hi _ ih
      refine ev_unfold (fun k => rfl) ?_
      simp only [laws_eqIntS.l0]
      refine ev_pos (by omega) (ev_pos (by omega) (ev_pos (by omega) ?_))
      rw [w64next i (by omega), rd_at a i hi, rd_at b i (by omega)]
      have e1 : a.length - (a[i] :: a.drop (i + 1)).length = i := by simp; omega
      have e2 : a.length - (a.drop (i + 1)).length = i + 1 := by simp; omega
      refine ev_ite (fun heq => ?_) (fun hne => ev_ret ?_)
      · refine ev_done (ih () trivial) ?_
        rw [e1, e2, drop_at b i (by omega), heq]
        exact decide_eq_decide.2 ⟨fun h => by rw [h], fun h => (List.cons.inj h).2⟩
      · rw [e1, drop_at b i (by omega)]
        exact (decide_eq_false (fun h => hne (List.cons.inj h).1)).symm
  · have : a ≠ b := by rintro rfl; exact hne rfl
    simp [this]

theorem laws_markIntS_ev (l : List Int) (a : Int) (hl : l.length ≤ 1073741824) (ha : 0 ≤ a ∧ a ≤ 1073741824) : Ev (fun k => laws_markIntS.f k l a) (a + (l.length : Int), marks a l.length) := by
  simp only [laws_markIntS.f]
  refine ev_loop (fun k (s : List Int × Int) i => laws_markIntS.l0 k s.1 s.2 i) l (fun _ _ => (a + (l.length : Int), marks a l.length)) (fun s i => s.1.length = l.length ∧ s.2 = a + i ∧ s.1.take i = marks a i) ?_ ?_ (l, a) 0 (by omega) ⟨rfl, by simp, by simp [marks]⟩
  · rintro ⟨s, n⟩ ⟨h1, h2, h3⟩
    simp only at h1 h2 h3
    refine ev_unfold (fun k => rfl) ?_
    simp only [laws_markIntS.l0]
    refine ev_neg (by omega) (ev_ret ?_)
    rw [List.take_of_length_le (by omega)] at h3
    rw [h2, h3]
  · rintro ⟨s, n⟩ i hi ⟨h1, h2, h3⟩ ih
    simp only at h1 h2 h3
    refine ev_unfold (fun k => rfl) ?_
    simp only [laws_markIntS.l0]
    refine ev_pos (by omega) (ev_pos (by omega) ?_)
    rw [w64next i (by omega), Int.toNat_natCast, w64 (n + 1) (by omega)]
    refine ih (s.set i n, n + 1) ⟨by simpa using h1, by simp only; omega, ?_⟩
    simp only [h2]
    exact marks_step a s i (by omega) h3

theorem laws_heldIntS_ev (n : Nat) (a : Int) (hn : n ≤ 1073741824) (ha : 0 ≤ a ∧ a ≤ 1073741824) : Ev (fun k => laws_heldIntS.f k (marks a n) a) (a + (n : Int)) := by
  have hl := marks_length a n
  simp only [laws_heldIntS.f]
  refine ev_loop (fun k (s : Int) i => laws_heldIntS.l0 k (marks a n) s i) (marks a n) (fun _ _ => a + (n : Int)) (fun s i => s = a + i) ?_ ?_ a 0 (by omega) (by simp)
  · rintro s h
    refine ev_unfold (fun k => rfl) ?_
    simp only [laws_heldIntS.l0]
    refine ev_neg (by omega) (ev_ret ?_)
    rw [h, hl]
  · rintro s i hi h ih
    refine ev_unfold (fun k => rfl) ?_
    simp only [laws_heldIntS.l0]
    refine ev_pos (by omega) (ev_pos (by omega) ?_)
    rw [w64next i (by omega), rd_at _ i hi, marks_at, w64 (s + 1) (by omega)]
    refine ev_pos h.symm (ih _ (by omega))

theorem spec_l1In_eq (n a b : Int) : spec_l1In.f n a b = some (inR n a b) := by
  unfold spec_l1In.f inR
  by_cases h : a ≤ n
  · rw [if_pos (by omega)]; simp [h]
  · rw [if_neg (by omega)]; simp [h]

theorem spec_l8Leaf_eq (s : Int) : spec_l8Leaf.f s = some (isLeaf s) := by
  unfold spec_l8Leaf.f isLeaf
  simp only [spec_l1In_eq, Option.bind_some]
  repeat' split
  all_goals simp_all

theorem spec_IsPattern_ev (l : List Int) (hl : l.length ≤ 1048576000) : Ev (fun k => spec_IsPattern.f k l) (isPattern l) := by
  simp only [spec_IsPattern.f]
  refine ev_loop (fun k (s : Int) i => spec_IsPattern.l0 k l s i) l (fun s r => decide (patF s r = some 1) && decide (l.length ≤ 20)) (fun s i => 0 ≤ s ∧ s ≤ i) ?_ ?_ 0 0 (by omega) ⟨by omega, by omega⟩
  · rintro s ⟨h1, h2⟩
    refine ev_unfold (fun k => rfl) ?_
    simp only [spec_IsPattern.l0]
    refine ev_neg (by omega) ?_
    refine ev_ite (fun h => ev_ret ?_) (fun h => ev_ret ?_)
    · simp [patF, h]; omega
    · simp [patF, h]
  · rintro s i hi ⟨h1, h2⟩ ih
    have j1 : ∀ b, (b = true → Ev (fun k => spec_IsPattern.l0 k l s ((i + 1 : Nat) : Int)) (decide (patF s (l.drop (i + 1)) = some 1) && decide (l.length ≤ 20))) → Ev (fun k => spec_IsPattern.j1 k l s i b) (if b = true then (decide (patF s (l.drop (i + 1)) = some 1) && decide (l.length ≤ 20)) else if l[i] = -2 ∨ l[i] = -3 then (if s ≥ 2 then (decide (patF (s - 1) (l.drop (i + 1)) = some 1) && decide (l.length ≤ 20)) else false) else false) := by
      intro b hb
      refine ev_unfold (fun k => rfl) ?_
      simp only [spec_IsPattern.j1]
      rw [w64next i (by omega), rd_at l i hi, w64 (s - 1) (by omega)]
      refine ev_ite (fun h => ?_) (fun h => ?_)
      · rw [if_pos h]; exact hb h
      · rw [if_neg h]
        refine ev_pos (by omega) (ev_pos (by omega) ?_)
        refine ev_ite (fun h2 => ?_) (fun h2 => ?_)
        · rw [if_pos (.inl h2)]
          refine ev_ite (fun h3 => ?_) (fun h3 => ?_)
          · rw [if_pos h3]; exact ih _ ⟨by omega, by omega⟩
          · rw [if_neg h3]; exact Ev.now _
        · refine ev_ite (fun h4 => ?_) (fun h4 => ?_)
          · rw [if_pos (.inr h4)]
            refine ev_ite (fun h3 => ?_) (fun h3 => ?_)
            · rw [if_pos h3]; exact ih _ ⟨by omega, by omega⟩
            · rw [if_neg h3]; exact Ev.now _
          · rw [if_neg (by omega)]; exact Ev.now _
    refine ev_unfold (fun k => rfl) ?_
    simp only [spec_IsPattern.l0]
    refine ev_pos (by omega) (ev_pos (by omega) (ev_eq (spec_l8Leaf_eq _) ?_))
    rw [w64next i (by omega), rd_at l i hi, w64 (s + 1) (by omega)]
    unfold patF
    refine ev_ite (fun h => ?_) (fun h => ?_)
    · rw [if_pos h]; exact ih _ ⟨by omega, by omega⟩
    · rw [if_neg h]
      refine ev_ite (fun h2 => ?_) (fun h2 => ?_)
      · rw [if_pos h2]
        refine ev_done (j1 _ (fun _ => ih _ ⟨by omega, by omega⟩)) ?_
        by_cases h3 : s ≥ 1
        · simp [h3]
        · simp [h3]; omega
      · rw [if_neg h2]
        refine ev_done (j1 _ (fun h => by cases h)) ?_
        simp only [Bool.false_eq_true, if_false]
        by_cases h3 : l[i] = -2 ∨ l[i] = -3
        · rw [if_pos h3, if_pos h3]
          by_cases h4 : s ≥ 2
          · rw [if_pos h4, if_pos h4]
          · rw [if_neg h4, if_neg h4]; simp
        · rw [if_neg h3, if_neg h3]; simp

theorem spec_NotPattern_ev (l : List Int) (hl : l.length ≤ 1048575999) : Ev (fun k => spec_NotPattern.f k l) (notPattern l) := by
  simp only [spec_NotPattern.f, Option.bind_some, List.nil_append, List.length_nil]
  unfold notPattern
  refine ev_pos (by omega) (ev_pos (by omega) (Ev.bind (spec_IsPattern_ev _ (by simp; omega)) ?_))
  refine ev_ite (fun h => ev_ret ?_) (fun h => ev_ret ?_)
  · rw [if_pos h]
  · rw [if_neg h]

theorem impl_InRange_eq (n a b : Int) : impl_InRange.f n a b = some (inR n a b) := by
  unfold impl_InRange.f inR
  by_cases h : a ≤ n
  · rw [if_pos (by omega)]; simp [h]
  · rw [if_neg (by omega)]; simp [h]

theorem impl_isTest_eq (s : Int) : impl_isTest.f s = some (isLeaf s) := by
  unfold impl_isTest.f isLeaf
  simp only [impl_InRange_eq, Option.bind_some]
  repeat' split
  all_goals simp_all

theorem impl_IsPattern_ev (l : List Int) (hl : l.length ≤ 1048576000) : Ev (fun k => impl_IsPattern.f k l) (isPattern l) := by
  simp only [impl_IsPattern.f]
  refine ev_loop (fun k (s : Int) i => impl_IsPattern.l0 k l s l (l.length : Int) i) l (fun s r => decide (patF s r = some 1) && decide (l.length ≤ 20)) (fun s i => 0 ≤ s ∧ s ≤ i) ?_ ?_ 0 0 (by omega) ⟨by omega, by omega⟩
  · rintro s ⟨h1, h2⟩
    refine ev_unfold (fun k => rfl) ?_
    simp only [impl_IsPattern.l0, impl_InRange_eq, Option.bind_some]
    refine ev_neg (by omega) ?_
    refine ev_ite (fun h => ev_ret ?_) (fun h => ev_ret ?_)
    · rw [inR_iff] at h
      simp [patF]
      by_cases h5 : s = 1
      · simp [h5]; omega
      · simp [h5]
    · rw [inR_iff] at h
      simp [patF]; omega
  · rintro s i hi ⟨h1, h2⟩ ih
    have j1 : ∀ b, (b = true → Ev (fun k => impl_IsPattern.l0 k l s l (l.length : Int) ((i + 1 : Nat) : Int)) (decide (patF s (l.drop (i + 1)) = some 1) && decide (l.length ≤ 20))) → Ev (fun k => impl_IsPattern.j1 k l s l[i] l (l.length : Int) i b) (if b = true then (decide (patF s (l.drop (i + 1)) = some 1) && decide (l.length ≤ 20)) else if l[i] = -2 ∨ l[i] = -3 then (if s ≥ 2 then (decide (patF (s - 1) (l.drop (i + 1)) = some 1) && decide (l.length ≤ 20)) else false) else false) := by
      intro b hb
      refine ev_unfold (fun k => rfl) ?_
      simp only [impl_IsPattern.j1]
      rw [w64next i (by omega), w64 (s - 1) (by omega)]
      refine ev_ite (fun h => ?_) (fun h => ?_)
      · rw [if_pos h]; exact hb h
      · rw [if_neg h]
        refine ev_ite (fun h2 => ?_) (fun h2 => ?_)
        · rw [if_pos (.inl h2)]
          refine ev_ite (fun h3 => ?_) (fun h3 => ?_)
          · rw [if_pos h3]; exact ih _ ⟨by omega, by omega⟩
          · rw [if_neg h3]; exact Ev.now _
        · refine ev_ite (fun h4 => ?_) (fun h4 => ?_)
          · rw [if_pos (.inr h4)]
            refine ev_ite (fun h3 => ?_) (fun h3 => ?_)
            · rw [if_pos h3]; exact ih _ ⟨by omega, by omega⟩
            · rw [if_neg h3]; exact Ev.now _
          · rw [if_neg (by omega)]; exact Ev.now _
    refine ev_unfold (fun k => rfl) ?_
    simp only [impl_IsPattern.l0]
    refine ev_pos (by omega) (ev_pos (by omega) (ev_pos (by omega) (ev_eq (impl_isTest_eq _) ?_)))
    rw [w64next i (by omega), rd_at l i hi, w64 (s + 1) (by omega)]
    unfold patF
    refine ev_ite (fun h => ?_) (fun h => ?_)
    · rw [if_pos h]; exact ih _ ⟨by omega, by omega⟩
    · rw [if_neg h]
      refine ev_ite (fun h2 => ?_) (fun h2 => ?_)
      · rw [if_pos h2]
        refine ev_done (j1 _ (fun _ => ih _ ⟨by omega, by omega⟩)) ?_
        by_cases h3 : s ≥ 1
        · simp [h3]
        · simp [h3]; omega
      · rw [if_neg h2]
        refine ev_done (j1 _ (fun h => by cases h)) ?_
        simp only [Bool.false_eq_true, if_false]
        by_cases h3 : l[i] = -2 ∨ l[i] = -3
        · rw [if_pos h3, if_pos h3]
          by_cases h4 : s ≥ 2
          · rw [if_pos h4, if_pos h4]
          · rw [if_neg h4, if_neg h4]; simp
        · rw [if_neg h3, if_neg h3]; simp

theorem impl_copyOf_eq (l : List Int) (hl : l.length ≤ 1048576000) : impl_copyOf.f l = some l := by
  unfold impl_copyOf.f
  simp only [Option.bind_some, List.length_nil, List.nil_append]
  rw [if_pos (by omega)]

theorem impl_NotPattern_ev (l : List Int) (hl : l.length ≤ 1048575999) : Ev (fun k => impl_NotPattern.f k l) (notPattern l) := by
  simp only [impl_NotPattern.f, impl_copyOf_eq l (by omega), Option.bind_some]
  unfold notPattern
  refine ev_pos (by omega) (Ev.bind (impl_IsPattern_ev _ (by simp; omega)) ?_)
  refine ev_ite (fun h => ev_ret ?_) (fun h => ev_ret ?_)
  · rw [if_pos h]
  · rw [if_neg h]

theorem FnExactNotPattern : laws_FnExactNotPattern.Pure := by
  intro l _ _ _
  refine Ev.rounds ?_
  simp only [laws_FnExactNotPattern.f]
  refine ev_ite (fun _ => Ev.now _) (fun h => ?_)
  have hl : l.length ≤ 1048576000 := by omega
  have hg := notPattern_length l
  have eqs := laws_eqIntS_ev (notPattern l) (notPattern l) (by omega)
  have es := spec_NotPattern_ev l (by omega)
  have ei := impl_NotPattern_ev l (by omega)
  have j0 : Ev (fun k => laws_FnExactNotPattern.j0 k l (notPattern l) (notPattern l) false) true := by
    refine ev_unfold (fun k => rfl) ?_
    simp only [laws_FnExactNotPattern.j0]
    refine ev_neg (by simp) (Ev.bind (laws_markIntS_ev _ 1 (by omega) (by omega)) (Ev.bind (laws_heldIntS_ev _ 1 (by omega) (by omega)) (ev_neg (by omega) (ev_pos rfl ?_))))
    refine Ev.bind (laws_toIntS_ev l hl) (Ev.bind ei (Ev.bind eqs (ev_pos (by simp) ?_)))
    exact Ev.bind (laws_heldIntS_ev _ 1 (by omega) (by omega)) (ev_neg (by omega) (ev_pos rfl (Ev.now _)))
  refine Ev.bind (laws_toIntS_ev l hl) (Ev.bind es (Ev.bind (laws_toIntS_ev l hl) (Ev.bind ei (Ev.bind eqs (ev_pos (by simp) ?_)))))
  refine Ev.bind (laws_toIntS_ev l hl) (Ev.bind (laws_eqIntS_ev l l (by omega)) (ev_pos (by simp) ?_))
  refine Ev.bind (laws_markIntS_ev l 1 (by omega) (by omega)) (ev_neg (by simp only; omega) (Ev.bind eqs ?_))
  refine ev_done (Ev.congr (fun k => ?_) j0) rfl
  simp

end Go.Proofs.Ytjalkgjjjebdpaa.Pure
