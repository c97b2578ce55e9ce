/- In the given program FnExactAddRound answers true for every input, by what its functions compute; no condition. -/
import Derived.Test.YtcegnlconafikaaQFnExactAddRoundx3
import Derived.Test.YtcegnlconafikaaLib
import Derived.Test.YtcegnlconafikaaCards
import Derived.Test.YtcegnlconafikaaSheets
import Derived.Test.YtcegnlconafikaaMarks
namespace Go.Proofs.Ytcegnlconafikaa.Pure
open Go.RowKit Go.Proofs.Ytcegnlconafikaa.QFnExactAddRound Go.Proofs.YtcegnlconafikaaW.PrintWords Go.Proofs.YtcegnlconafikaaW.PrintLast Go.Proofs.YtcegnlconafikaaW.PrintMore Go.Proofs.Ytcegnlconafikaa.Lib
set_option linter.unusedVariables false
set_option linter.unusedSimpArgs false

theorem rdss_at (l : List (List Int)) (i : Nat) (h : i < l.length) : rd_L1 l (i : Int) = l[i] := by
  unfold rd_L1
  rw [Int.toNat_natCast, List.getD_eq_getElem?_getD, List.getElem?_eq_getElem h]
  rfl

theorem laws_szIntS_eq (l : List Int) (a : Int) (ha : -1 ≤ a ∧ a ≤ 1048576) (hl : l.length ≤ maxLen) : laws_szIntS.f l a = some (bLeft a l.length) := by
  simp only [maxLen] at hl
  unfold laws_szIntS.f bLeft
  rw [w64 _ (by omega)]
  split <;> rfl

theorem laws_szIntSS_ev (l : List (List Int)) (a : Int) (ha : 0 ≤ a ∧ a ≤ 1048576) (hl : l.length ≤ maxLen) (hr : ∀ r ∈ l, r.length ≤ maxLen) : Ev (fun k => laws_szIntSS.f k l a) (bLeft a (l.length + totalLen l)) := by
  simp only [maxLen] at hl
  simp only [laws_szIntSS.f]
  rw [w64 (a - (l.length : Int)) (by omega)]
  refine ev_ite (fun h => ev_ret ?_) (fun h => ?_)
  · exact (bLeft_no (by unfold bLeft; rw [if_pos h]; omega)).symm
  · have h0 : ¬ bLeft a l.length < 0 := by unfold bLeft; rw [if_neg h]; exact h
    have e0 := (bLeft_some h0).2
    rw [← e0]
    refine ev_done (ev_loop (fun k (s : Int) i => laws_szIntSS.l0 k l s i) l (fun s r => bLeft s (totalLen r)) (fun s i => 0 ≤ s ∧ s ≤ 1048576 ∧ l.length ≤ 1048576) ?_ ?_ (bLeft a l.length) 0 (by omega) ⟨by omega, by omega, by omega⟩) ?_
    · rintro s ⟨h1, _, _⟩
      refine ev_unfold (fun k => rfl) ?_
      simp only [laws_szIntSS.l0]
      refine ev_neg (by omega) (ev_ret ?_)
      unfold bLeft totalLen
      simp; omega
    · rintro s i hi ⟨h1, h2, h3⟩ ih
      refine ev_unfold (fun k => rfl) ?_
      simp only [laws_szIntSS.l0]
      rw [w64next i (by omega), rdss_at l i hi, totalLen_cons]
      refine ev_pos (by omega) (ev_pos (by omega) (ev_eq (laws_szIntS_eq _ _ (by omega) (hr _ (List.getElem_mem hi))) ?_))
      refine ev_ite (fun h => ev_ret (bLeft_no h).symm) (fun h => ?_)
      have h4 := bLeft_some h
      refine ev_done (ih (bLeft s l[i].length) ⟨by omega, by omega, h3⟩) ?_
      exact bLeft_then h
    · rw [List.drop_zero]; exact bLeft_then h0

theorem laws_toIntS_ev (l : List Int) (hl : l.length ≤ 1048576000) : Ev (fun k => laws_toIntS.f k l) l := by
  simp only [laws_toIntS.f]
  refine ev_pos (by omega) (ev_pos (by omega) ?_)
  refine ev_loop (fun k (s : List Int) i => laws_toIntS.l0 k l s i) l (fun _ _ => l) (fun s i => s.length = l.length ∧ s.take i = l.take i) ?_ ?_ _ 0 (by omega) ⟨by simp, by simp⟩
  · rintro s ⟨h1, h2⟩
    refine ev_unfold (fun k => rfl) ?_
    simp only [laws_toIntS.l0]
    refine ev_neg (by omega) (ev_ret ?_)
    rw [List.take_of_length_le (by omega), List.take_of_length_le (by omega)] at h2
    exact h2
  · rintro s i hi ⟨h1, h2⟩ ih
    refine ev_unfold (fun k => rfl) ?_
    simp only [laws_toIntS.l0]
    refine ev_pos (by omega) (ev_pos (by omega) (ev_pos (by omega) ?_))
    rw [w64next i (by omega), rd_at l i hi, Int.toNat_natCast]
    refine ih _ ⟨by simpa using h1, ?_⟩
    apply List.ext_getElem
    · simp; omega
    · intro j hj1 hj2
      simp at hj1 hj2
      simp only [List.getElem_take, List.getElem_set]
      by_cases hij : i = j
      · subst hij; simp
      · rw [if_neg hij]
        have h3 : (s.take i)[j]'(by simp; omega) = (l.take i)[j]'(by simp; omega) := by simp only [h2]
        simpa using h3

theorem laws_toIntSS_ev (l : List (List Int)) (hl : l.length ≤ 1048576000) (hr : ∀ r ∈ l, r.length ≤ 1048576000) : Ev (fun k => laws_toIntSS.f k l) l := by
  simp only [laws_toIntSS.f]
  refine ev_pos (by omega) (ev_pos (by omega) ?_)
  refine ev_loopN (fun k (s : List (List Int)) i => laws_toIntSS.l0 k l s i) l.length (fun _ _ => l) (fun s i => s.length = l.length ∧ s.take i = l.take i) ?_ ?_ _ 0 (by omega) ⟨by simp, by simp⟩
  · rintro s ⟨h1, h2⟩
    refine ev_unfold (fun k => rfl) ?_
    simp only [laws_toIntSS.l0]
    refine ev_neg (by omega) (ev_ret ?_)
    rw [List.take_of_length_le (by omega), List.take_of_length_le (by omega)] at h2
    exact h2
  · rintro s i hi ⟨h1, h2⟩ ih
    refine ev_unfold (fun k => rfl) ?_
    simp only [laws_toIntSS.l0]
    rw [w64next i (by omega), rdss_at l i hi, Int.toNat_natCast]
    refine ev_pos (by omega) (ev_pos (by omega) (Ev.bind (laws_toIntS_ev _ (hr _ (List.getElem_mem hi))) (ev_pos (by omega) ?_)))
    refine ih _ ⟨by simpa using h1, ?_⟩
    apply List.ext_getElem
    · simp; omega
    · intro j hj1 hj2
      simp at hj1 hj2
      simp only [List.getElem_take, List.getElem_set]
      by_cases hij : i = j
      · subst hij; simp
      · rw [if_neg hij]
        have h3 : (s.take i)[j]'(by simp; omega) = (l.take i)[j]'(by simp; omega) := by simp only [h2]
        simpa using h3

theorem laws_eqIntS_ev (a b : List Int) (ha : a.length ≤ 1048576000) : Ev (fun k => laws_eqIntS.f k a b) (decide (a = b)) := by
  simp only [laws_eqIntS.f]
  refine ev_ite (fun hlen => ?_) (fun hne => ev_ret ?_)
  · have hlen' : a.length = b.length := by omega
    have h := ev_loop (fun k (_ : Unit) i => laws_eqIntS.l0 k a b i) a (fun _ r => decide (r = b.drop (a.length - r.length))) (fun _ _ => True) ?_ ?_ () 0 (by omega) trivial
    · refine ev_done h ?_
      simp
    · rintro _ _
      refine ev_unfold (fun k => rfl) ?_
      simp only [laws_eqIntS.l0]
      refine ev_neg (by omega) (ev_ret ?_)
      rw [List.length_nil, Nat.sub_zero, hlen', drop_end]
      simp
    · rintro _ i hi _ ih
      refine ev_unfold (fun k => rfl) ?_
      simp only [laws_eqIntS.l0]
      refine ev_pos (by omega) (ev_pos (by omega) (ev_pos (by omega) ?_))
      rw [w64next i (by omega), rd_at a i hi, rd_at b i (by omega)]
      have e1 : a.length - (a[i] :: a.drop (i + 1)).length = i := by simp; omega
      have e2 : a.length - (a.drop (i + 1)).length = i + 1 := by simp; omega
      refine ev_ite (fun heq => ?_) (fun hne => ev_ret ?_)
      · refine ev_done (ih () trivial) ?_
        rw [e1, e2, drop_at b i (by omega), heq]
        exact decide_eq_decide.2 ⟨fun h => by rw [h], fun h => (List.cons.inj h).2⟩
      · rw [e1, drop_at b i (by omega)]
        exact (decide_eq_false (fun h => hne (List.cons.inj h).1)).symm
  · have : a ≠ b := by rintro rfl; exact hne rfl
    simp [this]

theorem laws_eqIntSS_ev (a b : List (List Int)) (ha : a.length ≤ 1048576000) (hr : ∀ r ∈ a, r.length ≤ 1048576000) : Ev (fun k => laws_eqIntSS.f k a b) (decide (a = b)) := by
  simp only [laws_eqIntSS.f]
  refine ev_ite (fun hlen => ?_) (fun hne => ev_ret ?_)
  · have hlen' : a.length = b.length := by omega
    refine ev_done (ev_loopN (fun k (_ : Unit) i => laws_eqIntSS.l0 k a b i) a.length (fun _ i => decide (a.drop i = b.drop i)) (fun _ _ => True) ?_ ?_ () 0 (by omega) trivial) (by simp)
    · rintro _ _
      refine ev_unfold (fun k => rfl) ?_
      simp only [laws_eqIntSS.l0]
      refine ev_neg (by omega) (ev_ret ?_)
      rw [drop_end, hlen', drop_end]; simp
    · rintro _ i hi _ ih
      refine ev_unfold (fun k => rfl) ?_
      simp only [laws_eqIntSS.l0]
      rw [w64next i (by omega), rdss_at a i hi, rdss_at b i (by omega), drop_at a i hi, drop_at b i (by omega)]
      refine ev_pos (by omega) (ev_pos (by omega) (ev_pos (by omega) (Ev.bind (laws_eqIntS_ev _ _ (hr _ (List.getElem_mem hi))) ?_)))
      refine ev_ite (fun heq => ?_) (fun hne => ev_ret ?_)
      · refine ev_done (ih () trivial) ?_
        have heq' := of_decide_eq_true heq
        exact decide_eq_decide.2 ⟨fun h => by rw [h, heq'], fun h => (List.cons.inj h).2⟩
      · exact (decide_eq_false (fun h => hne (decide_eq_true (List.cons.inj h).1))).symm
  · have : a ≠ b := by rintro rfl; exact hne rfl
    simp [this]

theorem laws_markIntS_ev (l : List Int) (a : Int) (hl : l.length ≤ 1073741824) (ha : 0 ≤ a ∧ a ≤ 1073741824) : Ev (fun k => laws_markIntS.f k l a) (a + (l.length : Int), marks a l.length) := by
  simp only [laws_markIntS.f]
  refine ev_loop (fun k (s : List Int × Int) i => laws_markIntS.l0 k s.1 s.2 i) l (fun _ _ => (a + (l.length : Int), marks a l.length)) (fun s i => s.1.length = l.length ∧ s.2 = a + i ∧ s.1.take i = marks a i) ?_ ?_ (l, a) 0 (by omega) ⟨rfl, by simp, by simp [marks]⟩
  · rintro ⟨s, n⟩ ⟨h1, h2, h3⟩
    simp only at h1 h2 h3
    refine ev_unfold (fun k => rfl) ?_
    simp only [laws_markIntS.l0]
    refine ev_neg (by omega) (ev_ret ?_)
    rw [List.take_of_length_le (by omega)] at h3
    rw [h2, h3]
  · rintro ⟨s, n⟩ i hi ⟨h1, h2, h3⟩ ih
    simp only at h1 h2 h3
    refine ev_unfold (fun k => rfl) ?_
    simp only [laws_markIntS.l0]
    refine ev_pos (by omega) (ev_pos (by omega) ?_)
    rw [w64next i (by omega), Int.toNat_natCast, w64 (n + 1) (by omega)]
    refine ih (s.set i n, n + 1) ⟨by simpa using h1, by simp only; omega, ?_⟩
    simp only [h2]
    exact marks_step a s i (by omega) h3

theorem spec_l1In_eq (n a b : Int) : spec_l1In.f n a b = some (inR n a b) := by
  unfold spec_l1In.f inR
  by_cases h : a ≤ n
  · rw [if_pos (by omega)]; simp [h]
  · rw [if_neg (by omega)]; simp [h]

theorem spec_IsRound_ev (p : Int) (l : List Int) (hl : l.length ≤ 1048576000) : Ev (fun k => spec_IsRound.f k p l) (isRound p l) := by
  simp only [spec_IsRound.f]
  refine ev_loop (fun k (s : Int) i => spec_IsRound.l0 k p l s i) l (fun s r => r.all (fun x => inR x (-1000) 1000) && (inR p 2 6 && (decide ((l.length : Int) = p) && (wsum s r == 0)))) (fun _ _ => True) ?_ ?_ 0 0 (by omega) trivial
  · rintro s _
    refine ev_unfold (fun k => rfl) ?_
    simp only [spec_IsRound.l0, spec_l1In_eq, Option.bind_some]
    refine ev_neg (by omega) ?_
    refine ev_ite (fun h => ?_) (fun h => ?_)
    · refine ev_ite (fun h2 => ?_) (fun h2 => ?_)
      · refine ev_ret ?_
        simp [h, h2, wsum]
      · refine ev_ret ?_
        simp [h2]
    · refine ev_ret ?_
      simp [h]
  · rintro s i hi _ ih
    refine ev_unfold (fun k => rfl) ?_
    simp only [spec_IsRound.l0, spec_l1In_eq, Option.bind_some]
    refine ev_pos (by omega) (ev_pos (by omega) ?_)
    rw [w64next i (by omega), rd_at l i hi, List.all_cons]
    refine ev_ite (fun h => ?_) (fun h => ?_)
    · rw [h, Bool.true_and]; exact ih _ trivial
    · rw [Bool.not_eq_true] at h
      rw [h, Bool.false_and, Bool.false_and]; exact Ev.now _

theorem spec_IsSheet_ev (p : Int) (l : List (List Int)) (hl : l.length ≤ 1048576000) (hr : ∀ r ∈ l, r.length ≤ 1048576000) : Ev (fun k => spec_IsSheet.f k p l) (isSheet p l) := by
  simp only [spec_IsSheet.f]
  refine ev_done (ev_loop (fun k (_ : Unit) i => spec_IsSheet.l0 k p l i) l (fun _ r => r.all (isRound p) && (inR p 2 6 && decide (l.length ≤ 50))) (fun _ _ => True) ?_ ?_ () 0 (by omega) trivial) rfl
  · rintro _ _
    refine ev_unfold (fun k => rfl) ?_
    simp only [spec_IsSheet.l0, spec_l1In_eq, Option.bind_some]
    refine ev_neg (by omega) (ev_ite (fun h => ev_ret ?_) (fun h => ev_ret ?_))
    · simp [h]; omega
    · simp [h]
  · rintro _ i hi _ ih
    refine ev_unfold (fun k => rfl) ?_
    simp only [spec_IsSheet.l0]
    rw [w64next i (by omega), rdss_at l i hi, List.all_cons]
    refine ev_pos (by omega) (ev_pos (by omega) (Ev.bind (spec_IsRound_ev p _ (hr _ (List.getElem_mem hi))) ?_))
    refine ev_ite (fun h => ?_) (fun h => ev_ret ?_)
    · rw [h, Bool.true_and]; exact ih () trivial
    · rw [Bool.not_eq_true] at h; rw [h]; simp

theorem spec_l15Copy_ev (l : List (List Int)) (hl : l.length ≤ 1048576000) (hr : ∀ r ∈ l, r.length ≤ 1048576000) : Ev (fun k => spec_l15Copy.f k l) l := by
  simp only [spec_l15Copy.f]
  refine ev_done (ev_loop (fun k (s : List (List Int)) i => spec_l15Copy.l0 k l s i) l (fun s r => s ++ r) (fun s i => s.length = i) ?_ ?_ [] 0 (by omega) rfl) (by simp)
  · rintro s hs
    refine ev_unfold (fun k => rfl) ?_
    simp only [spec_l15Copy.l0]
    exact ev_neg (by omega) (ev_ret (by simp))
  · rintro s i hi hs ih
    have hri := hr _ (List.getElem_mem hi)
    refine ev_unfold (fun k => rfl) ?_
    simp only [spec_l15Copy.l0, Option.bind_some, List.nil_append, List.length_nil]
    rw [w64next i (by omega), rdss_at l i hi]
    refine ev_pos (by omega) (ev_pos (by omega) (ev_pos (by omega) (ev_pos (by omega) ?_)))
    refine ev_done (ih _ (by simp [hs])) ?_
    simp

theorem spec_AddRound_ev (p : Int) (l : List (List Int)) (r : List Int) (hl : l.length ≤ 104857600) (hr : ∀ r ∈ l, r.length ≤ 1048576000) (hr1 : r.length ≤ 1048576000) : Ev (fun k => spec_AddRound.f k p l r) (if isSheet p (l ++ [r]) = true then (l ++ [r], true) else (l, false)) := by
  have hlr : ∀ x ∈ l ++ [r], x.length ≤ 1048576000 := by
    intro x hx
    rcases List.mem_append.1 hx with hx | hx
    · exact hr x hx
    · rw [List.mem_singleton.1 hx]; exact hr1
  simp only [spec_AddRound.f, Option.bind_some, List.nil_append, List.length_nil]
  refine Ev.bind (spec_l15Copy_ev l (by omega) hr) (ev_pos (by omega) (ev_pos (by omega) (Ev.bind (spec_IsSheet_ev p (l ++ [r]) (by simp; omega) hlr) (ev_ite (fun h => ev_ret ?_) (fun h => Ev.bind (spec_l15Copy_ev l (by omega) hr) (ev_ret ?_))))))
  · rw [if_pos h]
  · rw [if_neg h]

theorem impl_InRange_eq (n a b : Int) : impl_InRange.f n a b = some (inR n a b) := by
  unfold impl_InRange.f inR
  by_cases h : a ≤ n
  · rw [if_pos (by omega)]; simp [h]
  · rw [if_neg (by omega)]; simp [h]

theorem impl_allIn_ev (l : List Int) (a b : Int) (hl : l.length ≤ 1048576000) : Ev (fun k => impl_allIn.f k l a b) (l.all fun x => inR x a b) := by
  simp only [impl_allIn.f]
  refine ev_loop (fun k (_ : Unit) i => impl_allIn.l0 k a b l (l.length : Int) i) l (fun _ r => r.all fun x => inR x a b) (fun _ _ => True) ?_ ?_ () 0 (by omega) trivial
  · rintro s _
    refine ev_unfold (fun k => rfl) ?_
    simp only [impl_allIn.l0]
    exact ev_neg (by omega) (ev_ret rfl)
  · rintro s i hi _ ih
    refine ev_unfold (fun k => rfl) ?_
    simp only [impl_allIn.l0]
    refine ev_pos (by omega) (ev_pos (by omega) (ev_pos (by omega) (ev_eq (impl_InRange_eq _ _ _) ?_)))
    rw [w64next i (by omega), rd_at l i hi, List.all_cons]
    refine ev_ite (fun h => ?_) (fun h => ?_)
    · rw [h, Bool.true_and]; exact ih () trivial
    · rw [Bool.not_eq_true] at h
      rw [h, Bool.false_and]; exact Ev.now _

theorem impl_sum_ev (l : List Int) (hl : l.length ≤ 1048576000) : Ev (fun k => impl_sum.f k l) (wsum 0 l) := by
  simp only [impl_sum.f]
  refine ev_loop (fun k (s : Int) i => impl_sum.l0 k s l (l.length : Int) i) l (fun s r => wsum s r) (fun _ _ => True) ?_ ?_ 0 0 (by omega) trivial
  · rintro s _
    refine ev_unfold (fun k => rfl) ?_
    simp only [impl_sum.l0]
    exact ev_neg (by omega) (ev_ret rfl)
  · rintro s i hi _ ih
    refine ev_unfold (fun k => rfl) ?_
    simp only [impl_sum.l0]
    refine ev_pos (by omega) (ev_pos (by omega) (ev_pos (by omega) ?_))
    rw [w64next i (by omega), rd_at l i hi]
    exact ih _ trivial

theorem impl_IsRound_ev (p : Int) (l : List Int) (hl : l.length ≤ 1048576000) : Ev (fun k => impl_IsRound.f k p l) (isRound p l) := by
  simp only [impl_IsRound.f, impl_InRange_eq, Option.bind_some]
  unfold isRound
  refine ev_ite (fun h => ?_) (fun h => ?_)
  · refine ev_ite (fun h2 => ?_) (fun h2 => ?_)
    · refine Ev.bind (impl_allIn_ev l _ _ hl) ?_
      refine ev_ite (fun h3 => ?_) (fun h3 => ?_)
      · refine Ev.bind (impl_sum_ev l hl) (ev_ret ?_)
        simp [h, h2, h3]
      · refine ev_ret ?_
        rw [Bool.not_eq_true] at h3
        rw [h3, Bool.false_and]
    · refine ev_ret ?_
      simp [h2]
  · refine ev_ret ?_
    simp [h]

theorem impl_IsSheet_ev (p : Int) (l : List (List Int)) (hl : l.length ≤ 1048576000) (hr : ∀ r ∈ l, r.length ≤ 1048576000) : Ev (fun k => impl_IsSheet.f k p l) (isSheet p l) := by
  simp only [impl_IsSheet.f]
  refine ev_done (ev_loop (fun k (_ : Unit) i => impl_IsSheet.l0 k p l l (l.length : Int) i) l (fun _ r => r.all (isRound p) && (inR p 2 6 && decide (l.length ≤ 50))) (fun _ _ => True) ?_ ?_ () 0 (by omega) trivial) rfl
  · rintro _ _
    refine ev_unfold (fun k => rfl) ?_
    simp only [impl_IsSheet.l0, impl_InRange_eq, Option.bind_some]
    refine ev_neg (by omega) (ev_ite (fun h => ev_ret ?_) (fun h => ev_ret ?_))
    · simp [h]; omega
    · simp [h]
  · rintro _ i hi _ ih
    refine ev_unfold (fun k => rfl) ?_
    simp only [impl_IsSheet.l0]
    rw [w64next i (by omega), rdss_at l i hi, List.all_cons]
    refine ev_pos (by omega) (ev_pos (by omega) (ev_pos (by omega) (Ev.bind (impl_IsRound_ev p _ (hr _ (List.getElem_mem hi))) ?_)))
    refine ev_ite (fun h => ?_) (fun h => ev_ret ?_)
    · rw [h, Bool.true_and]; exact ih () trivial
    · rw [Bool.not_eq_true] at h; rw [h]; simp

theorem impl_copyOf_eq (l : List Int) (hl : l.length ≤ 1048576000) : impl_copyOf.f l = some l := by
  unfold impl_copyOf.f
  simp only [Option.bind_some, List.length_nil, List.nil_append]
  rw [if_pos (by omega)]

theorem impl_copyRows_ev (l : List (List Int)) (hl : l.length ≤ 1048576000) (hr : ∀ r ∈ l, r.length ≤ 1048576000) : Ev (fun k => impl_copyRows.f k l) l := by
  simp only [impl_copyRows.f]
  refine ev_done (ev_loop (fun k (s : List (List Int)) i => impl_copyRows.l0 k s l (l.length : Int) i) l (fun s r => s ++ r) (fun s i => s.length = i) ?_ ?_ [] 0 (by omega) rfl) (by simp)
  · rintro s hs
    refine ev_unfold (fun k => rfl) ?_
    simp only [impl_copyRows.l0]
    exact ev_neg (by omega) (ev_ret (by simp))
  · rintro s i hi hs ih
    refine ev_unfold (fun k => rfl) ?_
    simp only [impl_copyRows.l0]
    rw [w64next i (by omega), rdss_at l i hi]
    refine ev_pos (by omega) (ev_pos (by omega) (ev_pos (by omega) (ev_eq (impl_copyOf_eq _ (hr _ (List.getElem_mem hi))) (ev_pos (by omega) ?_))))
    refine ev_done (ih _ (by simp [hs])) ?_
    simp

theorem impl_AddRound_ev (p : Int) (l : List (List Int)) (r : List Int) (hl : l.length ≤ 104857600) (hr : ∀ r ∈ l, r.length ≤ 1048576000) (hr1 : r.length ≤ 1048576000) : Ev (fun k => impl_AddRound.f k p l r) (if isSheet p (l ++ [r]) = true then (l ++ [r], true) else (l, false)) := by
  have hlr : ∀ x ∈ l ++ [r], x.length ≤ 1048576000 := by
    intro x hx
    rcases List.mem_append.1 hx with hx | hx
    · exact hr x hx
    · rw [List.mem_singleton.1 hx]; exact hr1
  simp only [impl_AddRound.f]
  refine Ev.bind (impl_copyRows_ev l (by omega) hr) (ev_eq (impl_copyOf_eq r hr1) (ev_pos (by omega) (ev_eq rfl (Ev.bind (impl_IsSheet_ev p (l ++ [r]) (by simp; omega) hlr) (ev_ite (fun h => ev_ret ?_) (fun h => Ev.bind (impl_copyRows_ev l (by omega) hr) (ev_ret ?_)))))))
  · rw [if_pos h]
  · rw [if_neg h]

theorem laws_markIntSS_ev (l : List (List Int)) (a : Int) (hl : l.length ≤ 1048576000) (ht : totalLen l ≤ 268435456) (ha : 0 ≤ a ∧ a ≤ 268435456) : Ev (fun k => laws_markIntSS.f k l a) (a + (totalLen l : Int), markRows a l) := by
  simp only [laws_markIntSS.f]
  refine ev_loop (fun k (s : List (List Int) × Int) i => laws_markIntSS.l0 k s.1 s.2 i) l (fun _ _ => (a + (totalLen l : Int), markRows a l)) (fun s i => s.1 = markRows a (l.take i) ++ l.drop i ∧ s.2 = a + (totalLen (l.take i) : Int)) ?_ ?_ (l, a) 0 (by omega) ⟨by simp [markRows], by simp [totalLen]⟩
  · rintro ⟨s, n⟩ ⟨h1, h2⟩
    simp only at h1 h2
    rw [List.take_length, List.drop_length, List.append_nil] at h1
    rw [List.take_length] at h2
    refine ev_unfold (fun k => rfl) ?_
    simp only [laws_markIntSS.l0]
    refine ev_neg (by rw [h1, markRows_length]; omega) (ev_ret ?_)
    rw [h1, h2]
  · rintro ⟨s, n⟩ i hi ⟨h1, h2⟩ ih
    simp only at h1 h2
    have hm : (markRows a (l.take i)).length = i := by rw [markRows_length, List.length_take]; omega
    have hs : s.length = l.length := by rw [h1, List.length_append, hm, List.length_drop]; omega
    rw [drop_at l i hi] at h1
    have hg : s.getD (i : Int).toNat [] = l[i] := by
      rw [Int.toNat_natCast, h1, List.getD_eq_getElem?_getD, List.getElem?_append_right (by omega), hm, Nat.sub_self]
      rfl
    have hsp := totalLen_split l (i + 1)
    have htk : totalLen (l.take (i + 1)) = totalLen (l.take i) + l[i].length := by rw [take_at l i hi, totalLen_snoc]
    refine ev_unfold (fun k => rfl) ?_
    simp only [laws_markIntSS.l0]
    rw [hg, w64next i (by omega), Int.toNat_natCast]
    refine ev_pos (by omega) (ev_pos (by omega) (Ev.bind (laws_markIntS_ev l[i] n (by omega) (by omega)) (ih (s.set i (marks n l[i].length), n + (l[i].length : Int)) ⟨?_, ?_⟩)))
    · simp only
      rw [h1, List.set_append_right _ _ (by omega), hm, Nat.sub_self, List.set_cons_zero, take_at l i hi, markRows_snoc, List.append_assoc, h2]
      rfl
    · simp only
      rw [htk, h2]
      omega

theorem laws_heldIntS_ev (n : Nat) (a : Int) (hn : n ≤ 1073741824) (ha : 0 ≤ a ∧ a ≤ 1073741824) : Ev (fun k => laws_heldIntS.f k (marks a n) a) (a + (n : Int)) := by
  have hl := marks_length a n
  simp only [laws_heldIntS.f]
  refine ev_loop (fun k (s : Int) i => laws_heldIntS.l0 k (marks a n) s i) (marks a n) (fun _ _ => a + (n : Int)) (fun s i => s = a + i) ?_ ?_ a 0 (by omega) (by simp)
  · rintro s h
    refine ev_unfold (fun k => rfl) ?_
    simp only [laws_heldIntS.l0]
    refine ev_neg (by omega) (ev_ret ?_)
    rw [h, hl]
  · rintro s i hi h ih
    refine ev_unfold (fun k => rfl) ?_
    simp only [laws_heldIntS.l0]
    refine ev_pos (by omega) (ev_pos (by omega) ?_)
    rw [w64next i (by omega), rd_at _ i hi, marks_at, w64 (s + 1) (by omega)]
    refine ev_pos h.symm (ih _ (by omega))

theorem laws_heldIntSS_ev (l : List (List Int)) (a : Int) (hl : l.length ≤ 1048576000) (ht : totalLen l ≤ 268435456) (ha : 0 ≤ a ∧ a ≤ 268435456) : Ev (fun k => laws_heldIntSS.f k (markRows a l) a) (a + (totalLen l : Int)) := by
  simp only [laws_heldIntSS.f]
  have hm := markRows_length l a
  refine ev_loopN (fun k (s : Int) i => laws_heldIntSS.l0 k (markRows a l) s i) l.length (fun _ _ => a + (totalLen l : Int)) (fun s i => s = a + (totalLen (l.take i) : Int)) ?_ ?_ a 0 (by omega) (by simp [totalLen])
  · rintro s h
    rw [List.take_length] at h
    refine ev_unfold (fun k => rfl) ?_
    simp only [laws_heldIntSS.l0]
    exact ev_neg (by omega) (ev_ret h)
  · rintro s i hi h ih
    have hrow : rd_L1 (markRows a l) (i : Int) = marks s l[i].length := by
      rw [rdss_at _ i (by omega)]
      have e : markRows a l = markRows a (l.take i ++ [l[i]] ++ l.drop (i + 1)) := by rw [← take_at l i hi, List.take_append_drop]
      have key : ∀ (x y : List (List Int)) (a : Int), markRows a (x ++ y) = markRows a x ++ markRows (a + (totalLen x : Int)) y := by
        intro x
        induction x with
        | nil => intro y a; simp [markRows, totalLen]
        | cons r t ih => intro y a; show markRows a (r :: (t ++ y)) = _; simp only [markRows]; rw [ih, totalLen_cons, List.cons_append, show a + (r.length : Int) + (totalLen t : Int) = a + ((r.length + totalLen t : Nat) : Int) by omega]
      have e2 : markRows a l = markRows a (l.take i) ++ (marks s l[i].length :: markRows (a + (totalLen (l.take i ++ [l[i]]) : Int)) (l.drop (i + 1))) := by
        rw [e, key, markRows_snoc, List.append_assoc, h]
        rfl
      have hmi : (markRows a (l.take i)).length = i := by rw [markRows_length, List.length_take]; omega
      have : (markRows a l)[i]? = some (marks s l[i].length) := by
        rw [e2, List.getElem?_append_right (by omega), hmi, Nat.sub_self]
        rfl
      rw [List.getElem?_eq_getElem (by omega)] at this
      exact Option.some.inj this
    have hsp := totalLen_split l (i + 1)
    have htk : totalLen (l.take (i + 1)) = totalLen (l.take i) + l[i].length := by rw [take_at l i hi, totalLen_snoc]
    refine ev_unfold (fun k => rfl) ?_
    simp only [laws_heldIntSS.l0]
    rw [hrow, w64next i (by omega)]
    refine ev_pos (by omega) (ev_pos (by omega) (Ev.bind (laws_heldIntS_ev l[i].length s (by omega) (by omega)) (ev_neg (by omega) (ih _ ?_))))
    rw [htk, h]
    omega

set_option maxHeartbeats 8000000 in
set_option maxRecDepth 100000 in
theorem FnExactAddRound (p : Int) (A1 : Option Addr) (c1 : Nat) (l1 : List (List Int)) (A2 : Option Addr) (c2 : Nat) (l2 : List Int) (w : World) (hr1 : Kd.C (Kd.slice 3 (Kd.int .i64)) w A1 l1.length l1) (hc1 : l1.length ≤ c1) (hr2 : Kd.C (Kd.int .i64) w A2 l2.length l2) (hc2 : l2.length ≤ c2)
    (hp : (Lit.int .i64 p).wf = true) (hl1 : l1.length ≤ maxLen) (hn1 : ∀ r ∈ l1, r.length ≤ maxLen) (_ : ∀ r ∈ l1, ∀ x ∈ r, (Lit.int .i64 x).wf = true) (hl2 : l2.length ≤ maxLen) (_ : ∀ x ∈ l2, (Lit.int .i64 x).wf = true) :
    Calls Try.prog 12 #[.int .i64 p, .slice A1 l1.length c1, .slice A2 l2.length c2] w fun e w' => e = .returned (.bool true) ∧ Below w.heap.size w w' := by
  have HR1 := Aside0.mk hr1
  have HC1 := Aside0.mk hc1
  have HR2 := Aside0.mk hr2
  have HC2 := Aside0.mk hc2
  obtain ⟨k1, e1⟩ := (laws_szIntSS_ev l1 1048576 (by omega) hl1 hn1).rounds
  clear hr1 hc1 hr2 hc2 hp
  have HB := Aside0.mk (Below.refl w.heap.size w)
  by_cases g1 : (l2.length : Int) > 1048576
  · have g1a : decide (1048576 < (l2.length : Int)) = true := decide_eq_true g1
    have g1b : decide (1048576 < l2.length) = true := decide_eq_true (by omega)
    clear g1 e1
    go_enter Try.func12, Try.ntmps12
    go_wp2
    go_ret
    exact ⟨rfl, HB.out⟩
  have g1a : decide (1048576 < (l2.length : Int)) = false := decide_eq_false (by omega)
  have g1b : decide (1048576 < l2.length) = false := decide_eq_false (by omega)
  obtain ⟨z, hz⟩ : ∃ z, z = bLeft 1048576 (l1.length + totalLen l1) := ⟨_, rfl⟩
  rw [← hz] at e1
  have E1 := Aside0.mk e1
  clear e1
  by_cases g2 : z < 0
  · have g2a : decide (z < 0) = true := decide_eq_true g2
    clear g1 g2 hz hl1 hn1 hl2
    go_enter Try.func12, Try.ntmps12
    go_wp2_with (first | (go_at_call 15; (with_reducible refine (laws_szIntSS.calls k1 _ _ l1 1048576 z _ HR1.out HC1.out E1.out).mono ?_); rintro e w1_ ⟨rfl, hd⟩; have hb := hd.below; have nb_ := Aside0.mk (below_step HB.out hb); clear HB hb hd; have HB := nb_; clear nb_))
    go_ret
    exact ⟨rfl, HB.out⟩
  have g2a : decide (z < 0) = false := decide_eq_false g2
  rw [hz] at g2
  have hsz := (bLeft_some g2).1
  clear hz
  have ht : ∀ r ∈ l1, r.length ≤ 1048576 := fun r hr => by have := len_le_total hr; omega
  obtain ⟨k2, e2⟩ := (laws_toIntSS_ev l1 (by omega) (fun r hr => by have := ht r hr; omega)).rounds
  obtain ⟨k3, e3⟩ := (laws_toIntS_ev l2 (by omega)).rounds
  obtain ⟨Y, hY⟩ : ∃ Y, Y = (if isSheet p (l1 ++ [l2]) = true then (l1 ++ [l2], true) else (l1, false)) := ⟨_, rfl⟩
  obtain ⟨k4, e4⟩ := (spec_AddRound_ev p l1 l2 (by omega) (fun r hr => by have := ht r hr; omega) (by omega)).rounds
  obtain ⟨k5, e5⟩ := (impl_AddRound_ev p l1 l2 (by omega) (fun r hr => by have := ht r hr; omega) (by omega)).rounds
  rw [← hY] at e4 e5
  have hYt : totalLen Y.1 ≤ 2097152 ∧ Y.1.length ≤ 1048577 ∧ ∀ r ∈ Y.1, r.length ≤ 1048576 := by
    rw [hY]
    split
    · refine ⟨by simp only [totalLen_snoc]; omega, by simp; omega, fun r hr => ?_⟩
      rcases List.mem_append.1 hr with hr | hr
      · exact ht r hr
      · rw [List.mem_singleton.1 hr]; omega
    · exact ⟨by simp only; omega, by simp only; omega, ht⟩
  clear hY
  obtain ⟨Y, b⟩ := Y
  simp only at hYt
  obtain ⟨k6, e6⟩ := (laws_eqIntSS_ev Y Y (by omega) (fun r hr => by have := hYt.2.2 r hr; omega)).rounds
  obtain ⟨k7, e7⟩ := (laws_eqIntSS_ev l1 l1 (by omega) (fun r hr => by have := ht r hr; omega)).rounds
  obtain ⟨k8, e8⟩ := (laws_eqIntS_ev l2 l2 (by omega)).rounds
  rw [decide_eq_true rfl] at e6 e7 e8
  obtain ⟨k9, e9⟩ := (laws_markIntSS_ev l1 1 (by omega) (by omega) (by omega)).rounds
  obtain ⟨k10, e10⟩ := (laws_markIntS_ev l2 (1 + (totalLen l1 : Int)) (by omega) (by omega)).rounds
  obtain ⟨k11, e11⟩ := (laws_markIntSS_ev Y 1 (by omega) (by omega) (by omega)).rounds
  obtain ⟨k12, e12⟩ := (laws_heldIntSS_ev Y 1 (by omega) (by omega) (by omega)).rounds
  obtain ⟨t1, ht1⟩ : ∃ t1, t1 = 1 + (totalLen l1 : Int) := ⟨_, rfl⟩
  rw [← ht1] at e9 e10
  obtain ⟨t2, ht2⟩ : ∃ t2, t2 = t1 + (l2.length : Int) := ⟨_, rfl⟩
  rw [← ht2] at e10
  obtain ⟨m, hm⟩ : ∃ m, m = 1 + (totalLen Y : Int) := ⟨_, rfl⟩
  rw [← hm] at e11 e12
  obtain ⟨M, hM⟩ : ∃ M, M = markRows 1 Y := ⟨_, rfl⟩
  rw [← hM] at e11 e12
  obtain ⟨X1, hX1⟩ : ∃ X, X = markRows 1 l1 := ⟨_, rfl⟩
  rw [← hX1] at e9
  obtain ⟨X2, hX2⟩ : ∃ X, X = marks t1 l2.length := ⟨_, rfl⟩
  rw [← hX2] at e10
  have g3 : decide (t2 < 0) = false := decide_eq_false (by omega)
  have g4 : decide (m < 0) = false := decide_eq_false (by omega)
  have E2 := Aside0.mk e2
  have E3 := Aside0.mk e3
  have E4 := Aside0.mk e4
  have E5 := Aside0.mk e5
  have E6 := Aside0.mk e6
  have E7 := Aside0.mk e7
  have E8 := Aside0.mk e8
  have E9 := Aside0.mk e9
  have E10 := Aside0.mk e10
  have E11 := Aside0.mk e11
  have E12 := Aside0.mk e12
  clear e2 e3 e4 e5 e6 e7 e8 e9 e10 e11 e12 ht1 ht2 hm hM hX1 hX2 hYt ht hsz g1 g2 hl1 hn1 hl2
  go_enter Try.func12, Try.ntmps12
  go_wp2_with (first | (go_at_call 15; (with_reducible refine (laws_szIntSS.calls k1 _ _ l1 1048576 z _ (Kd.C_below HR1.out HB.out) HC1.out E1.out).mono ?_); rintro e w1_ ⟨rfl, hd⟩; have hb := hd.below; have s1_ := Aside0.mk hb.size; have nb_ := Aside0.mk (below_step HB.out hb); (try clear HB); (try clear hb); (try clear hd); have HB := nb_; clear nb_ ))
  go_wp2_with (first | (go_at_call 17; (with_reducible refine (laws_toIntSS.calls k2 _ _ l1 l1 _ (Kd.C_below HR1.out HB.out) HC1.out E2.out).mono ?_); rintro e w2_ ⟨v2_0, rfl, ho0, hb⟩; obtain ⟨A2_0, c2_0, rfl⟩ := Kd.S_slice ho0; have s2_ := Aside0.mk hb.size; have n0_ := Aside0.mk (show Kd.S (Kd.slice 3 (Kd.int .i64)) 28 w2_ w.heap.size (fun k_ => (w1_.heap.size ≤ k_ ∧ k_ < w2_.heap.size)) (.slice A2_0 l1.length c2_0) l1 from Kd.S_lower (Kd.S_mono (Kd.S_bound ho0) (fun k_ hk => (⟨hk.2.1, hk.2.2.1⟩ : _ ∧ _))) (below_size HB.out)); have nb_ := Aside0.mk (below_step HB.out hb); (try clear Fa); (try clear HB); (try clear hb); (try clear ho0); have Fa := n0_; have HB := nb_; clear nb_ n0_))
  go_wp2_with (first | (go_at_call 21; (with_reducible refine (laws_toIntS.calls k3 _ _ l2 l2 _ (Kd.C_below HR2.out HB.out) HC2.out E3.out).mono ?_); rintro e w3_ ⟨v3_0, rfl, ho0, hb⟩; obtain ⟨A3_0, c3_0, rfl⟩ := Kd.R_slice ho0; have s3_ := Aside0.mk hb.size; have n0_ := Aside0.mk (show Kd.S (Kd.slice 3 (Kd.int .i64)) 28 w3_ w.heap.size (fun k_ => (w1_.heap.size ≤ k_ ∧ k_ < w2_.heap.size)) (.slice A2_0 l1.length c2_0) l1 from Kd.S_below Fa.out hb); have n1_ := Aside0.mk (show Kd.R (Kd.int .i64) 3 w3_ w.heap.size (fun k_ => (w2_.heap.size ≤ k_ ∧ k_ < w3_.heap.size)) (.slice A3_0 l2.length c3_0) l2 from Kd.R_lower (Kd.R_mono (Kd.R_bound ho0) (fun k_ hk => (⟨hk.2.1, hk.2.2.1⟩ : _ ∧ _))) (below_size HB.out)); have nb_ := Aside0.mk (below_step HB.out hb); (try clear Fa); (try clear Fb); (try clear HB); (try clear hb); (try clear ho0); have Fa := n0_; have Fb := n1_; have HB := nb_; clear nb_ n0_ n1_))
  go_wp2_with (first | (go_at_call 43; (with_reducible refine (spec_AddRound.calls k4 p _ _ l1 _ _ l2 Y b _ (Kd.S_reads' Fa.out).2.2 (Kd.S_reads' Fa.out).2.1 (Kd.R_reads' Fb.out).2.2 (Kd.R_reads' Fb.out).2.1 E4.out).mono ?_); rintro e w4_ ⟨v4_0, rfl, ho0, hb⟩; obtain ⟨A4_0, c4_0, rfl⟩ := Kd.S_slice ho0; have s4_ := Aside0.mk hb.size; have n0_ := Aside0.mk (show Kd.S (Kd.slice 3 (Kd.int .i64)) 28 w4_ w.heap.size (fun k_ => (w1_.heap.size ≤ k_ ∧ k_ < w2_.heap.size)) (.slice A2_0 l1.length c2_0) l1 from Kd.S_below Fa.out hb); have n1_ := Aside0.mk (show Kd.R (Kd.int .i64) 3 w4_ w.heap.size (fun k_ => (w2_.heap.size ≤ k_ ∧ k_ < w3_.heap.size)) (.slice A3_0 l2.length c3_0) l2 from Kd.R_below Fb.out hb); have n2_ := Aside0.mk (show Kd.S (Kd.slice 3 (Kd.int .i64)) 28 w4_ w.heap.size (fun k_ => (w3_.heap.size ≤ k_ ∧ k_ < w4_.heap.size)) (.slice A4_0 Y.length c4_0) Y from Kd.S_lower (Kd.S_mono (Kd.S_bound ho0) (fun k_ hk => (⟨hk.2.1, hk.2.2.1⟩ : _ ∧ _))) (below_size HB.out)); have nb_ := Aside0.mk (below_step HB.out hb); (try clear Fa); (try clear Fb); (try clear Fw); (try clear HB); (try clear hb); (try clear ho0); have Fa := n0_; have Fb := n1_; have Fw := n2_; have HB := nb_; clear nb_ n0_ n1_ n2_))
  go_wp2_with (first | (go_at_call 17; (with_reducible refine (laws_toIntSS.calls k2 _ _ l1 l1 _ (Kd.C_below HR1.out HB.out) HC1.out E2.out).mono ?_); rintro e w5_ ⟨v5_0, rfl, ho0, hb⟩; obtain ⟨A5_0, c5_0, rfl⟩ := Kd.S_slice ho0; have s5_ := Aside0.mk hb.size; have n0_ := Aside0.mk (show Kd.S (Kd.slice 3 (Kd.int .i64)) 28 w5_ w.heap.size (fun k_ => (w1_.heap.size ≤ k_ ∧ k_ < w2_.heap.size)) (.slice A2_0 l1.length c2_0) l1 from Kd.S_below Fa.out hb); have n1_ := Aside0.mk (show Kd.R (Kd.int .i64) 3 w5_ w.heap.size (fun k_ => (w2_.heap.size ≤ k_ ∧ k_ < w3_.heap.size)) (.slice A3_0 l2.length c3_0) l2 from Kd.R_below Fb.out hb); have n2_ := Aside0.mk (show Kd.S (Kd.slice 3 (Kd.int .i64)) 28 w5_ w.heap.size (fun k_ => (w3_.heap.size ≤ k_ ∧ k_ < w4_.heap.size)) (.slice A4_0 Y.length c4_0) Y from Kd.S_below Fw.out hb); have n3_ := Aside0.mk (show Kd.S (Kd.slice 3 (Kd.int .i64)) 28 w5_ w.heap.size (fun k_ => (w4_.heap.size ≤ k_ ∧ k_ < w5_.heap.size)) (.slice A5_0 l1.length c5_0) l1 from Kd.S_lower (Kd.S_mono (Kd.S_bound ho0) (fun k_ hk => (⟨hk.2.1, hk.2.2.1⟩ : _ ∧ _))) (below_size HB.out)); have nb_ := Aside0.mk (below_step HB.out hb); (try clear Fa); (try clear Fb); (try clear Fw); (try clear Fx); (try clear HB); (try clear hb); (try clear ho0); have Fa := n0_; have Fb := n1_; have Fw := n2_; have Fx := n3_; have HB := nb_; clear nb_ n0_ n1_ n2_ n3_))
  go_wp2_with (first | (go_at_call 21; (with_reducible refine (laws_toIntS.calls k3 _ _ l2 l2 _ (Kd.C_below HR2.out HB.out) HC2.out E3.out).mono ?_); rintro e w6_ ⟨v6_0, rfl, ho0, hb⟩; obtain ⟨A6_0, c6_0, rfl⟩ := Kd.R_slice ho0; have s6_ := Aside0.mk hb.size; have n0_ := Aside0.mk (show Kd.S (Kd.slice 3 (Kd.int .i64)) 28 w6_ w.heap.size (fun k_ => (w1_.heap.size ≤ k_ ∧ k_ < w2_.heap.size)) (.slice A2_0 l1.length c2_0) l1 from Kd.S_below Fa.out hb); have n1_ := Aside0.mk (show Kd.R (Kd.int .i64) 3 w6_ w.heap.size (fun k_ => (w2_.heap.size ≤ k_ ∧ k_ < w3_.heap.size)) (.slice A3_0 l2.length c3_0) l2 from Kd.R_below Fb.out hb); have n2_ := Aside0.mk (show Kd.S (Kd.slice 3 (Kd.int .i64)) 28 w6_ w.heap.size (fun k_ => (w3_.heap.size ≤ k_ ∧ k_ < w4_.heap.size)) (.slice A4_0 Y.length c4_0) Y from Kd.S_below Fw.out hb); have n3_ := Aside0.mk (show Kd.S (Kd.slice 3 (Kd.int .i64)) 28 w6_ w.heap.size (fun k_ => (w4_.heap.size ≤ k_ ∧ k_ < w5_.heap.size)) (.slice A5_0 l1.length c5_0) l1 from Kd.S_below Fx.out hb); have n4_ := Aside0.mk (show Kd.R (Kd.int .i64) 3 w6_ w.heap.size (fun k_ => (w5_.heap.size ≤ k_ ∧ k_ < w6_.heap.size)) (.slice A6_0 l2.length c6_0) l2 from Kd.R_lower (Kd.R_mono (Kd.R_bound ho0) (fun k_ hk => (⟨hk.2.1, hk.2.2.1⟩ : _ ∧ _))) (below_size HB.out)); have nb_ := Aside0.mk (below_step HB.out hb); (try clear Fa); (try clear Fb); (try clear Fw); (try clear Fx); (try clear Fy); (try clear HB); (try clear hb); (try clear ho0); have Fa := n0_; have Fb := n1_; have Fw := n2_; have Fx := n3_; have Fy := n4_; have HB := nb_; clear nb_ n0_ n1_ n2_ n3_ n4_))
  go_wp2_with (first | (go_at_call 44; (with_reducible refine (impl_AddRound.calls k5 p _ _ l1 _ _ l2 Y b _ (Kd.S_reads' Fx.out).2.2 (Kd.S_reads' Fx.out).2.1 (Kd.R_reads' Fy.out).2.2 (Kd.R_reads' Fy.out).2.1 E5.out).mono ?_); rintro e w7_ ⟨v7_0, rfl, ho0, hb⟩; obtain ⟨A7_0, c7_0, rfl⟩ := Kd.S_slice ho0; have s7_ := Aside0.mk hb.size; have n0_ := Aside0.mk (show Kd.S (Kd.slice 3 (Kd.int .i64)) 28 w7_ w.heap.size (fun k_ => (w1_.heap.size ≤ k_ ∧ k_ < w2_.heap.size)) (.slice A2_0 l1.length c2_0) l1 from Kd.S_below Fa.out hb); have n1_ := Aside0.mk (show Kd.R (Kd.int .i64) 3 w7_ w.heap.size (fun k_ => (w2_.heap.size ≤ k_ ∧ k_ < w3_.heap.size)) (.slice A3_0 l2.length c3_0) l2 from Kd.R_below Fb.out hb); have n2_ := Aside0.mk (show Kd.S (Kd.slice 3 (Kd.int .i64)) 28 w7_ w.heap.size (fun k_ => (w3_.heap.size ≤ k_ ∧ k_ < w4_.heap.size)) (.slice A4_0 Y.length c4_0) Y from Kd.S_below Fw.out hb); have n3_ := Aside0.mk (show Kd.S (Kd.slice 3 (Kd.int .i64)) 28 w7_ w.heap.size (fun k_ => (w4_.heap.size ≤ k_ ∧ k_ < w5_.heap.size)) (.slice A5_0 l1.length c5_0) l1 from Kd.S_below Fx.out hb); have n4_ := Aside0.mk (show Kd.R (Kd.int .i64) 3 w7_ w.heap.size (fun k_ => (w5_.heap.size ≤ k_ ∧ k_ < w6_.heap.size)) (.slice A6_0 l2.length c6_0) l2 from Kd.R_below Fy.out hb); have n5_ := Aside0.mk (show Kd.S (Kd.slice 3 (Kd.int .i64)) 28 w7_ w.heap.size (fun k_ => (w6_.heap.size ≤ k_ ∧ k_ < w7_.heap.size)) (.slice A7_0 Y.length c7_0) Y from Kd.S_lower (Kd.S_mono (Kd.S_bound ho0) (fun k_ hk => (⟨hk.2.1, hk.2.2.1⟩ : _ ∧ _))) (below_size HB.out)); have nb_ := Aside0.mk (below_step HB.out hb); (try clear Fa); (try clear Fb); (try clear Fw); (try clear Fx); (try clear Fy); (try clear Fg); (try clear HB); (try clear hb); (try clear ho0); have Fa := n0_; have Fb := n1_; have Fw := n2_; have Fx := n3_; have Fy := n4_; have Fg := n5_; have HB := nb_; clear nb_ n0_ n1_ n2_ n3_ n4_ n5_))
  go_wp2_with (first | (go_at_call 19; (with_reducible refine (laws_eqIntSS.calls k6 _ _ Y _ _ Y true _ (Kd.S_reads' Fg.out).2.2 (Kd.S_reads' Fg.out).2.1 (Kd.S_reads' Fw.out).2.2 (Kd.S_reads' Fw.out).2.1 E6.out).mono ?_); rintro e w8_ ⟨rfl, hd⟩; have hb := hd.below; have s8_ := Aside0.mk hb.size; have n0_ := Aside0.mk (show Kd.S (Kd.slice 3 (Kd.int .i64)) 28 w8_ w.heap.size (fun k_ => (w1_.heap.size ≤ k_ ∧ k_ < w2_.heap.size)) (.slice A2_0 l1.length c2_0) l1 from Kd.S_below Fa.out hb); have n1_ := Aside0.mk (show Kd.R (Kd.int .i64) 3 w8_ w.heap.size (fun k_ => (w2_.heap.size ≤ k_ ∧ k_ < w3_.heap.size)) (.slice A3_0 l2.length c3_0) l2 from Kd.R_below Fb.out hb); have n2_ := Aside0.mk (show Kd.S (Kd.slice 3 (Kd.int .i64)) 28 w8_ w.heap.size (fun k_ => (w3_.heap.size ≤ k_ ∧ k_ < w4_.heap.size)) (.slice A4_0 Y.length c4_0) Y from Kd.S_below Fw.out hb); have n3_ := Aside0.mk (show Kd.S (Kd.slice 3 (Kd.int .i64)) 28 w8_ w.heap.size (fun k_ => (w4_.heap.size ≤ k_ ∧ k_ < w5_.heap.size)) (.slice A5_0 l1.length c5_0) l1 from Kd.S_below Fx.out hb); have n4_ := Aside0.mk (show Kd.R (Kd.int .i64) 3 w8_ w.heap.size (fun k_ => (w5_.heap.size ≤ k_ ∧ k_ < w6_.heap.size)) (.slice A6_0 l2.length c6_0) l2 from Kd.R_below Fy.out hb); have n5_ := Aside0.mk (show Kd.S (Kd.slice 3 (Kd.int .i64)) 28 w8_ w.heap.size (fun k_ => (w6_.heap.size ≤ k_ ∧ k_ < w7_.heap.size)) (.slice A7_0 Y.length c7_0) Y from Kd.S_below Fg.out hb); have nb_ := Aside0.mk (below_step HB.out hb); (try clear Fa); (try clear Fb); (try clear Fw); (try clear Fx); (try clear Fy); (try clear Fg); (try clear HB); (try clear hb); (try clear hd); have Fa := n0_; have Fb := n1_; have Fw := n2_; have Fx := n3_; have Fy := n4_; have Fg := n5_; have HB := nb_; clear nb_ n0_ n1_ n2_ n3_ n4_ n5_))
  go_wp2_with (first | (go_at_call 17; (with_reducible refine (laws_toIntSS.calls k2 _ _ l1 l1 _ (Kd.C_below HR1.out HB.out) HC1.out E2.out).mono ?_); rintro e w9_ ⟨v9_0, rfl, ho0, hb⟩; obtain ⟨A9_0, c9_0, rfl⟩ := Kd.S_slice ho0; have s9_ := Aside0.mk hb.size; have n0_ := Aside0.mk (show Kd.S (Kd.slice 3 (Kd.int .i64)) 28 w9_ w.heap.size (fun k_ => (w1_.heap.size ≤ k_ ∧ k_ < w2_.heap.size)) (.slice A2_0 l1.length c2_0) l1 from Kd.S_below Fa.out hb); have n1_ := Aside0.mk (show Kd.R (Kd.int .i64) 3 w9_ w.heap.size (fun k_ => (w2_.heap.size ≤ k_ ∧ k_ < w3_.heap.size)) (.slice A3_0 l2.length c3_0) l2 from Kd.R_below Fb.out hb); have n2_ := Aside0.mk (show Kd.S (Kd.slice 3 (Kd.int .i64)) 28 w9_ w.heap.size (fun k_ => (w3_.heap.size ≤ k_ ∧ k_ < w4_.heap.size)) (.slice A4_0 Y.length c4_0) Y from Kd.S_below Fw.out hb); have n3_ := Aside0.mk (show Kd.S (Kd.slice 3 (Kd.int .i64)) 28 w9_ w.heap.size (fun k_ => (w4_.heap.size ≤ k_ ∧ k_ < w5_.heap.size)) (.slice A5_0 l1.length c5_0) l1 from Kd.S_below Fx.out hb); have n4_ := Aside0.mk (show Kd.R (Kd.int .i64) 3 w9_ w.heap.size (fun k_ => (w5_.heap.size ≤ k_ ∧ k_ < w6_.heap.size)) (.slice A6_0 l2.length c6_0) l2 from Kd.R_below Fy.out hb); have n5_ := Aside0.mk (show Kd.S (Kd.slice 3 (Kd.int .i64)) 28 w9_ w.heap.size (fun k_ => (w6_.heap.size ≤ k_ ∧ k_ < w7_.heap.size)) (.slice A7_0 Y.length c7_0) Y from Kd.S_below Fg.out hb); have n6_ := Aside0.mk (show Kd.S (Kd.slice 3 (Kd.int .i64)) 28 w9_ w.heap.size (fun k_ => (w8_.heap.size ≤ k_ ∧ k_ < w9_.heap.size)) (.slice A9_0 l1.length c9_0) l1 from Kd.S_lower (Kd.S_mono (Kd.S_bound ho0) (fun k_ hk => (⟨hk.2.1, hk.2.2.1⟩ : _ ∧ _))) (below_size HB.out)); have nb_ := Aside0.mk (below_step HB.out hb); (try clear Fa); (try clear Fb); (try clear Fw); (try clear Fx); (try clear Fy); (try clear Fg); (try clear Fc); (try clear HB); (try clear hb); (try clear ho0); have Fa := n0_; have Fb := n1_; have Fw := n2_; have Fx := n3_; have Fy := n4_; have Fg := n5_; have Fc := n6_; have HB := nb_; clear nb_ n0_ n1_ n2_ n3_ n4_ n5_ n6_))
  go_wp2_with (first | (go_at_call 19; (with_reducible refine (laws_eqIntSS.calls k7 _ _ l1 _ _ l1 true _ (Kd.S_reads' Fx.out).2.2 (Kd.S_reads' Fx.out).2.1 (Kd.S_reads' Fc.out).2.2 (Kd.S_reads' Fc.out).2.1 E7.out).mono ?_); rintro e w10_ ⟨rfl, hd⟩; have hb := hd.below; have s10_ := Aside0.mk hb.size; have n0_ := Aside0.mk (show Kd.S (Kd.slice 3 (Kd.int .i64)) 28 w10_ w.heap.size (fun k_ => (w1_.heap.size ≤ k_ ∧ k_ < w2_.heap.size)) (.slice A2_0 l1.length c2_0) l1 from Kd.S_below Fa.out hb); have n1_ := Aside0.mk (show Kd.R (Kd.int .i64) 3 w10_ w.heap.size (fun k_ => (w2_.heap.size ≤ k_ ∧ k_ < w3_.heap.size)) (.slice A3_0 l2.length c3_0) l2 from Kd.R_below Fb.out hb); have n2_ := Aside0.mk (show Kd.S (Kd.slice 3 (Kd.int .i64)) 28 w10_ w.heap.size (fun k_ => (w3_.heap.size ≤ k_ ∧ k_ < w4_.heap.size)) (.slice A4_0 Y.length c4_0) Y from Kd.S_below Fw.out hb); have n3_ := Aside0.mk (show Kd.S (Kd.slice 3 (Kd.int .i64)) 28 w10_ w.heap.size (fun k_ => (w4_.heap.size ≤ k_ ∧ k_ < w5_.heap.size)) (.slice A5_0 l1.length c5_0) l1 from Kd.S_below Fx.out hb); have n4_ := Aside0.mk (show Kd.R (Kd.int .i64) 3 w10_ w.heap.size (fun k_ => (w5_.heap.size ≤ k_ ∧ k_ < w6_.heap.size)) (.slice A6_0 l2.length c6_0) l2 from Kd.R_below Fy.out hb); have n5_ := Aside0.mk (show Kd.S (Kd.slice 3 (Kd.int .i64)) 28 w10_ w.heap.size (fun k_ => (w6_.heap.size ≤ k_ ∧ k_ < w7_.heap.size)) (.slice A7_0 Y.length c7_0) Y from Kd.S_below Fg.out hb); have n6_ := Aside0.mk (show Kd.S (Kd.slice 3 (Kd.int .i64)) 28 w10_ w.heap.size (fun k_ => (w8_.heap.size ≤ k_ ∧ k_ < w9_.heap.size)) (.slice A9_0 l1.length c9_0) l1 from Kd.S_below Fc.out hb); have nb_ := Aside0.mk (below_step HB.out hb); (try clear Fa); (try clear Fb); (try clear Fw); (try clear Fx); (try clear Fy); (try clear Fg); (try clear Fc); (try clear HB); (try clear hb); (try clear hd); have Fa := n0_; have Fb := n1_; have Fw := n2_; have Fx := n3_; have Fy := n4_; have Fg := n5_; have Fc := n6_; have HB := nb_; clear nb_ n0_ n1_ n2_ n3_ n4_ n5_ n6_))
  go_wp2_with (first | (go_at_call 21; (with_reducible refine (laws_toIntS.calls k3 _ _ l2 l2 _ (Kd.C_below HR2.out HB.out) HC2.out E3.out).mono ?_); rintro e w11_ ⟨v11_0, rfl, ho0, hb⟩; obtain ⟨A11_0, c11_0, rfl⟩ := Kd.R_slice ho0; have s11_ := Aside0.mk hb.size; have n0_ := Aside0.mk (show Kd.S (Kd.slice 3 (Kd.int .i64)) 28 w11_ w.heap.size (fun k_ => (w1_.heap.size ≤ k_ ∧ k_ < w2_.heap.size)) (.slice A2_0 l1.length c2_0) l1 from Kd.S_below Fa.out hb); have n1_ := Aside0.mk (show Kd.R (Kd.int .i64) 3 w11_ w.heap.size (fun k_ => (w2_.heap.size ≤ k_ ∧ k_ < w3_.heap.size)) (.slice A3_0 l2.length c3_0) l2 from Kd.R_below Fb.out hb); have n2_ := Aside0.mk (show Kd.S (Kd.slice 3 (Kd.int .i64)) 28 w11_ w.heap.size (fun k_ => (w3_.heap.size ≤ k_ ∧ k_ < w4_.heap.size)) (.slice A4_0 Y.length c4_0) Y from Kd.S_below Fw.out hb); have n3_ := Aside0.mk (show Kd.S (Kd.slice 3 (Kd.int .i64)) 28 w11_ w.heap.size (fun k_ => (w4_.heap.size ≤ k_ ∧ k_ < w5_.heap.size)) (.slice A5_0 l1.length c5_0) l1 from Kd.S_below Fx.out hb); have n4_ := Aside0.mk (show Kd.R (Kd.int .i64) 3 w11_ w.heap.size (fun k_ => (w5_.heap.size ≤ k_ ∧ k_ < w6_.heap.size)) (.slice A6_0 l2.length c6_0) l2 from Kd.R_below Fy.out hb); have n5_ := Aside0.mk (show Kd.S (Kd.slice 3 (Kd.int .i64)) 28 w11_ w.heap.size (fun k_ => (w6_.heap.size ≤ k_ ∧ k_ < w7_.heap.size)) (.slice A7_0 Y.length c7_0) Y from Kd.S_below Fg.out hb); have n6_ := Aside0.mk (show Kd.S (Kd.slice 3 (Kd.int .i64)) 28 w11_ w.heap.size (fun k_ => (w8_.heap.size ≤ k_ ∧ k_ < w9_.heap.size)) (.slice A9_0 l1.length c9_0) l1 from Kd.S_below Fc.out hb); have n7_ := Aside0.mk (show Kd.R (Kd.int .i64) 3 w11_ w.heap.size (fun k_ => (w10_.heap.size ≤ k_ ∧ k_ < w11_.heap.size)) (.slice A11_0 l2.length c11_0) l2 from Kd.R_lower (Kd.R_mono (Kd.R_bound ho0) (fun k_ hk => (⟨hk.2.1, hk.2.2.1⟩ : _ ∧ _))) (below_size HB.out)); have nb_ := Aside0.mk (below_step HB.out hb); (try clear Fa); (try clear Fb); (try clear Fw); (try clear Fx); (try clear Fy); (try clear Fg); (try clear Fc); (try clear Fd); (try clear HB); (try clear hb); (try clear ho0); have Fa := n0_; have Fb := n1_; have Fw := n2_; have Fx := n3_; have Fy := n4_; have Fg := n5_; have Fc := n6_; have Fd := n7_; have HB := nb_; clear nb_ n0_ n1_ n2_ n3_ n4_ n5_ n6_ n7_))
  go_wp2_with (first | (go_at_call 23; (with_reducible refine (laws_eqIntS.calls k8 _ _ l2 _ _ l2 true _ (Kd.R_reads' Fy.out).2.2 (Kd.R_reads' Fy.out).2.1 (Kd.R_reads' Fd.out).2.2 (Kd.R_reads' Fd.out).2.1 E8.out).mono ?_); rintro e w12_ ⟨rfl, hd⟩; have hb := hd.below; have s12_ := Aside0.mk hb.size; have n0_ := Aside0.mk (show Kd.S (Kd.slice 3 (Kd.int .i64)) 28 w12_ w.heap.size (fun k_ => (w1_.heap.size ≤ k_ ∧ k_ < w2_.heap.size)) (.slice A2_0 l1.length c2_0) l1 from Kd.S_below Fa.out hb); have n1_ := Aside0.mk (show Kd.R (Kd.int .i64) 3 w12_ w.heap.size (fun k_ => (w2_.heap.size ≤ k_ ∧ k_ < w3_.heap.size)) (.slice A3_0 l2.length c3_0) l2 from Kd.R_below Fb.out hb); have n2_ := Aside0.mk (show Kd.S (Kd.slice 3 (Kd.int .i64)) 28 w12_ w.heap.size (fun k_ => (w3_.heap.size ≤ k_ ∧ k_ < w4_.heap.size)) (.slice A4_0 Y.length c4_0) Y from Kd.S_below Fw.out hb); have n3_ := Aside0.mk (show Kd.S (Kd.slice 3 (Kd.int .i64)) 28 w12_ w.heap.size (fun k_ => (w4_.heap.size ≤ k_ ∧ k_ < w5_.heap.size)) (.slice A5_0 l1.length c5_0) l1 from Kd.S_below Fx.out hb); have n4_ := Aside0.mk (show Kd.R (Kd.int .i64) 3 w12_ w.heap.size (fun k_ => (w5_.heap.size ≤ k_ ∧ k_ < w6_.heap.size)) (.slice A6_0 l2.length c6_0) l2 from Kd.R_below Fy.out hb); have n5_ := Aside0.mk (show Kd.S (Kd.slice 3 (Kd.int .i64)) 28 w12_ w.heap.size (fun k_ => (w6_.heap.size ≤ k_ ∧ k_ < w7_.heap.size)) (.slice A7_0 Y.length c7_0) Y from Kd.S_below Fg.out hb); have n6_ := Aside0.mk (show Kd.S (Kd.slice 3 (Kd.int .i64)) 28 w12_ w.heap.size (fun k_ => (w8_.heap.size ≤ k_ ∧ k_ < w9_.heap.size)) (.slice A9_0 l1.length c9_0) l1 from Kd.S_below Fc.out hb); have n7_ := Aside0.mk (show Kd.R (Kd.int .i64) 3 w12_ w.heap.size (fun k_ => (w10_.heap.size ≤ k_ ∧ k_ < w11_.heap.size)) (.slice A11_0 l2.length c11_0) l2 from Kd.R_below Fd.out hb); have nb_ := Aside0.mk (below_step HB.out hb); (try clear Fa); (try clear Fb); (try clear Fw); (try clear Fx); (try clear Fy); (try clear Fg); (try clear Fc); (try clear Fd); (try clear HB); (try clear hb); (try clear hd); have Fa := n0_; have Fb := n1_; have Fw := n2_; have Fx := n3_; have Fy := n4_; have Fg := n5_; have Fc := n6_; have Fd := n7_; have HB := nb_; clear nb_ n0_ n1_ n2_ n3_ n4_ n5_ n6_ n7_))
  clear Fa Fb Fc Fd
  go_wp2_with (first | (go_at_call 45; (with_reducible refine (laws_markIntSS.calls k9 (fun k_ => (w4_.heap.size ≤ k_ ∧ k_ < w5_.heap.size)) _ l1 1 t1 X1 w _ HB.out Fx.out E9.out).mono ?_); rintro e w13_ ⟨rfl, ho, hb, hk⟩; have s13_ := Aside0.mk hk.1; have n0_ := Aside0.mk (show Kd.S (Kd.slice 3 (Kd.int .i64)) 28 w13_ w.heap.size (fun k_ => (w3_.heap.size ≤ k_ ∧ k_ < w4_.heap.size)) (.slice A4_0 Y.length c4_0) Y from Kd.S_kept Fw.out hk (fun k_ (h1_ : (w3_.heap.size ≤ k_ ∧ k_ < w4_.heap.size)) (h2_ : (w4_.heap.size ≤ k_ ∧ k_ < w5_.heap.size)) => by have := s1_.out; have := s2_.out; have := s3_.out; have := s4_.out; have := s5_.out; have := s6_.out; have := s7_.out; have := s8_.out; have := s9_.out; have := s10_.out; have := s11_.out; have := s12_.out; omega)); have n1_ := Aside0.mk (show Kd.R (Kd.int .i64) 3 w13_ w.heap.size (fun k_ => (w5_.heap.size ≤ k_ ∧ k_ < w6_.heap.size)) (.slice A6_0 l2.length c6_0) l2 from Kd.R_kept Fy.out hk (fun k_ (h1_ : (w5_.heap.size ≤ k_ ∧ k_ < w6_.heap.size)) (h2_ : (w4_.heap.size ≤ k_ ∧ k_ < w5_.heap.size)) => by have := s1_.out; have := s2_.out; have := s3_.out; have := s4_.out; have := s5_.out; have := s6_.out; have := s7_.out; have := s8_.out; have := s9_.out; have := s10_.out; have := s11_.out; have := s12_.out; omega)); have n2_ := Aside0.mk (show Kd.S (Kd.slice 3 (Kd.int .i64)) 28 w13_ w.heap.size (fun k_ => (w6_.heap.size ≤ k_ ∧ k_ < w7_.heap.size)) (.slice A7_0 Y.length c7_0) Y from Kd.S_kept Fg.out hk (fun k_ (h1_ : (w6_.heap.size ≤ k_ ∧ k_ < w7_.heap.size)) (h2_ : (w4_.heap.size ≤ k_ ∧ k_ < w5_.heap.size)) => by have := s1_.out; have := s2_.out; have := s3_.out; have := s4_.out; have := s5_.out; have := s6_.out; have := s7_.out; have := s8_.out; have := s9_.out; have := s10_.out; have := s11_.out; have := s12_.out; omega)); have n3_ := Aside0.mk (show Kd.S (Kd.slice 3 (Kd.int .i64)) 28 w13_ w.heap.size (fun k_ => ((w4_.heap.size ≤ k_ ∧ k_ < w5_.heap.size) ∨ (w12_.heap.size ≤ k_ ∧ k_ < w13_.heap.size))) (.slice A5_0 l1.length c5_0) X1 from Kd.S_mono (Kd.S_bound ho) (fun k_ hk_ => hk_.1.elim .inl (fun h_ => .inr ⟨h_, hk_.2.2.1⟩))); have nb_ := Aside0.mk (hb); (try clear Fw); (try clear Fy); (try clear Fg); (try clear Fx); (try clear HB); (try clear hb); (try clear hk); (try clear ho); have Fw := n0_; have Fy := n1_; have Fg := n2_; have Fx := n3_; have HB := nb_; clear nb_ n0_ n1_ n2_ n3_))
  go_wp2_with (first | (go_at_call 24; (with_reducible refine (laws_markIntS.calls k10 (fun k_ => (w5_.heap.size ≤ k_ ∧ k_ < w6_.heap.size)) _ l2 t1 t2 X2 w _ HB.out Fy.out E10.out).mono ?_); rintro e w14_ ⟨rfl, ho, hb, hk⟩; have s14_ := Aside0.mk hk.1; have n0_ := Aside0.mk (show Kd.S (Kd.slice 3 (Kd.int .i64)) 28 w14_ w.heap.size (fun k_ => (w3_.heap.size ≤ k_ ∧ k_ < w4_.heap.size)) (.slice A4_0 Y.length c4_0) Y from Kd.S_kept Fw.out hk (fun k_ (h1_ : (w3_.heap.size ≤ k_ ∧ k_ < w4_.heap.size)) (h2_ : (w5_.heap.size ≤ k_ ∧ k_ < w6_.heap.size)) => by have := s1_.out; have := s2_.out; have := s3_.out; have := s4_.out; have := s5_.out; have := s6_.out; have := s7_.out; have := s8_.out; have := s9_.out; have := s10_.out; have := s11_.out; have := s12_.out; have := s13_.out; omega)); have n1_ := Aside0.mk (show Kd.S (Kd.slice 3 (Kd.int .i64)) 28 w14_ w.heap.size (fun k_ => ((w4_.heap.size ≤ k_ ∧ k_ < w5_.heap.size) ∨ (w12_.heap.size ≤ k_ ∧ k_ < w13_.heap.size))) (.slice A5_0 l1.length c5_0) X1 from Kd.S_kept Fx.out hk (fun k_ (h1_ : ((w4_.heap.size ≤ k_ ∧ k_ < w5_.heap.size) ∨ (w12_.heap.size ≤ k_ ∧ k_ < w13_.heap.size))) (h2_ : (w5_.heap.size ≤ k_ ∧ k_ < w6_.heap.size)) => by have := s1_.out; have := s2_.out; have := s3_.out; have := s4_.out; have := s5_.out; have := s6_.out; have := s7_.out; have := s8_.out; have := s9_.out; have := s10_.out; have := s11_.out; have := s12_.out; have := s13_.out; omega)); have n2_ := Aside0.mk (show Kd.S (Kd.slice 3 (Kd.int .i64)) 28 w14_ w.heap.size (fun k_ => (w6_.heap.size ≤ k_ ∧ k_ < w7_.heap.size)) (.slice A7_0 Y.length c7_0) Y from Kd.S_kept Fg.out hk (fun k_ (h1_ : (w6_.heap.size ≤ k_ ∧ k_ < w7_.heap.size)) (h2_ : (w5_.heap.size ≤ k_ ∧ k_ < w6_.heap.size)) => by have := s1_.out; have := s2_.out; have := s3_.out; have := s4_.out; have := s5_.out; have := s6_.out; have := s7_.out; have := s8_.out; have := s9_.out; have := s10_.out; have := s11_.out; have := s12_.out; have := s13_.out; omega)); have n3_ := Aside0.mk (show Kd.R (Kd.int .i64) 3 w14_ w.heap.size (fun k_ => ((w5_.heap.size ≤ k_ ∧ k_ < w6_.heap.size) ∨ (w13_.heap.size ≤ k_ ∧ k_ < w14_.heap.size))) (.slice A6_0 l2.length c6_0) X2 from Kd.R_mono (Kd.R_bound ho) (fun k_ hk_ => hk_.1.elim .inl (fun h_ => .inr ⟨h_, hk_.2.2.1⟩))); have nb_ := Aside0.mk (hb); (try clear Fw); (try clear Fx); (try clear Fg); (try clear Fy); (try clear HB); (try clear hb); (try clear hk); (try clear ho); have Fw := n0_; have Fx := n1_; have Fg := n2_; have Fy := n3_; have HB := nb_; clear nb_ n0_ n1_ n2_ n3_))
  go_wp2_with (first | (go_at_call 19; (with_reducible refine (laws_eqIntSS.calls k6 _ _ Y _ _ Y true _ (Kd.S_reads' Fg.out).2.2 (Kd.S_reads' Fg.out).2.1 (Kd.S_reads' Fw.out).2.2 (Kd.S_reads' Fw.out).2.1 E6.out).mono ?_); rintro e w15_ ⟨rfl, hd⟩; have hb := hd.below; have s15_ := Aside0.mk hb.size; have n0_ := Aside0.mk (show Kd.S (Kd.slice 3 (Kd.int .i64)) 28 w15_ w.heap.size (fun k_ => (w3_.heap.size ≤ k_ ∧ k_ < w4_.heap.size)) (.slice A4_0 Y.length c4_0) Y from Kd.S_below Fw.out hb); have n1_ := Aside0.mk (show Kd.S (Kd.slice 3 (Kd.int .i64)) 28 w15_ w.heap.size (fun k_ => ((w4_.heap.size ≤ k_ ∧ k_ < w5_.heap.size) ∨ (w12_.heap.size ≤ k_ ∧ k_ < w13_.heap.size))) (.slice A5_0 l1.length c5_0) X1 from Kd.S_below Fx.out hb); have n2_ := Aside0.mk (show Kd.R (Kd.int .i64) 3 w15_ w.heap.size (fun k_ => ((w5_.heap.size ≤ k_ ∧ k_ < w6_.heap.size) ∨ (w13_.heap.size ≤ k_ ∧ k_ < w14_.heap.size))) (.slice A6_0 l2.length c6_0) X2 from Kd.R_below Fy.out hb); have n3_ := Aside0.mk (show Kd.S (Kd.slice 3 (Kd.int .i64)) 28 w15_ w.heap.size (fun k_ => (w6_.heap.size ≤ k_ ∧ k_ < w7_.heap.size)) (.slice A7_0 Y.length c7_0) Y from Kd.S_below Fg.out hb); have nb_ := Aside0.mk (below_step HB.out hb); (try clear Fw); (try clear Fx); (try clear Fy); (try clear Fg); (try clear HB); (try clear hb); (try clear hd); have Fw := n0_; have Fx := n1_; have Fy := n2_; have Fg := n3_; have HB := nb_; clear nb_ n0_ n1_ n2_ n3_))
  go_wp2_with (first | (go_at_call 45; (with_reducible refine (laws_markIntSS.calls k11 (fun k_ => (w6_.heap.size ≤ k_ ∧ k_ < w7_.heap.size)) _ Y 1 m M w _ HB.out Fg.out E11.out).mono ?_); rintro e w16_ ⟨rfl, ho, hb, hk⟩; have s16_ := Aside0.mk hk.1; have n0_ := Aside0.mk (show Kd.S (Kd.slice 3 (Kd.int .i64)) 28 w16_ w.heap.size (fun k_ => (w3_.heap.size ≤ k_ ∧ k_ < w4_.heap.size)) (.slice A4_0 Y.length c4_0) Y from Kd.S_kept Fw.out hk (fun k_ (h1_ : (w3_.heap.size ≤ k_ ∧ k_ < w4_.heap.size)) (h2_ : (w6_.heap.size ≤ k_ ∧ k_ < w7_.heap.size)) => by have := s1_.out; have := s2_.out; have := s3_.out; have := s4_.out; have := s5_.out; have := s6_.out; have := s7_.out; have := s8_.out; have := s9_.out; have := s10_.out; have := s11_.out; have := s12_.out; have := s13_.out; have := s14_.out; have := s15_.out; omega)); have n1_ := Aside0.mk (show Kd.S (Kd.slice 3 (Kd.int .i64)) 28 w16_ w.heap.size (fun k_ => ((w4_.heap.size ≤ k_ ∧ k_ < w5_.heap.size) ∨ (w12_.heap.size ≤ k_ ∧ k_ < w13_.heap.size))) (.slice A5_0 l1.length c5_0) X1 from Kd.S_kept Fx.out hk (fun k_ (h1_ : ((w4_.heap.size ≤ k_ ∧ k_ < w5_.heap.size) ∨ (w12_.heap.size ≤ k_ ∧ k_ < w13_.heap.size))) (h2_ : (w6_.heap.size ≤ k_ ∧ k_ < w7_.heap.size)) => by have := s1_.out; have := s2_.out; have := s3_.out; have := s4_.out; have := s5_.out; have := s6_.out; have := s7_.out; have := s8_.out; have := s9_.out; have := s10_.out; have := s11_.out; have := s12_.out; have := s13_.out; have := s14_.out; have := s15_.out; omega)); have n2_ := Aside0.mk (show Kd.R (Kd.int .i64) 3 w16_ w.heap.size (fun k_ => ((w5_.heap.size ≤ k_ ∧ k_ < w6_.heap.size) ∨ (w13_.heap.size ≤ k_ ∧ k_ < w14_.heap.size))) (.slice A6_0 l2.length c6_0) X2 from Kd.R_kept Fy.out hk (fun k_ (h1_ : ((w5_.heap.size ≤ k_ ∧ k_ < w6_.heap.size) ∨ (w13_.heap.size ≤ k_ ∧ k_ < w14_.heap.size))) (h2_ : (w6_.heap.size ≤ k_ ∧ k_ < w7_.heap.size)) => by have := s1_.out; have := s2_.out; have := s3_.out; have := s4_.out; have := s5_.out; have := s6_.out; have := s7_.out; have := s8_.out; have := s9_.out; have := s10_.out; have := s11_.out; have := s12_.out; have := s13_.out; have := s14_.out; have := s15_.out; omega)); have n3_ := Aside0.mk (show Kd.S (Kd.slice 3 (Kd.int .i64)) 28 w16_ w.heap.size (fun k_ => ((w6_.heap.size ≤ k_ ∧ k_ < w7_.heap.size) ∨ (w15_.heap.size ≤ k_ ∧ k_ < w16_.heap.size))) (.slice A7_0 Y.length c7_0) M from Kd.S_mono (Kd.S_bound ho) (fun k_ hk_ => hk_.1.elim .inl (fun h_ => .inr ⟨h_, hk_.2.2.1⟩))); have nb_ := Aside0.mk (hb); (try clear Fw); (try clear Fx); (try clear Fy); (try clear Fg); (try clear HB); (try clear hb); (try clear hk); (try clear ho); have Fw := n0_; have Fx := n1_; have Fy := n2_; have Fg := n3_; have HB := nb_; clear nb_ n0_ n1_ n2_ n3_))
  go_wp2_with (first | (go_at_call 46; refine calls_of_args (args' := #[.slice A7_0 M.length c7_0, .int .i64 1]) (by rw [← (Kd.S_reads' Fg.out).1]) ?_; (with_reducible refine (laws_heldIntSS.calls k12 _ _ M 1 m _ (Kd.S_reads' Fg.out).2.2 (by have h_ := Kd.S_reads' Fg.out; omega) E12.out).mono ?_); rintro e w17_ ⟨rfl, hd⟩; have hb := hd.below; have s17_ := Aside0.mk hb.size; have n0_ := Aside0.mk (show Kd.S (Kd.slice 3 (Kd.int .i64)) 28 w17_ w.heap.size (fun k_ => (w3_.heap.size ≤ k_ ∧ k_ < w4_.heap.size)) (.slice A4_0 Y.length c4_0) Y from Kd.S_below Fw.out hb); have n1_ := Aside0.mk (show Kd.S (Kd.slice 3 (Kd.int .i64)) 28 w17_ w.heap.size (fun k_ => ((w4_.heap.size ≤ k_ ∧ k_ < w5_.heap.size) ∨ (w12_.heap.size ≤ k_ ∧ k_ < w13_.heap.size))) (.slice A5_0 l1.length c5_0) X1 from Kd.S_below Fx.out hb); have n2_ := Aside0.mk (show Kd.R (Kd.int .i64) 3 w17_ w.heap.size (fun k_ => ((w5_.heap.size ≤ k_ ∧ k_ < w6_.heap.size) ∨ (w13_.heap.size ≤ k_ ∧ k_ < w14_.heap.size))) (.slice A6_0 l2.length c6_0) X2 from Kd.R_below Fy.out hb); have n3_ := Aside0.mk (show Kd.S (Kd.slice 3 (Kd.int .i64)) 28 w17_ w.heap.size (fun k_ => ((w6_.heap.size ≤ k_ ∧ k_ < w7_.heap.size) ∨ (w15_.heap.size ≤ k_ ∧ k_ < w16_.heap.size))) (.slice A7_0 Y.length c7_0) M from Kd.S_below Fg.out hb); have nb_ := Aside0.mk (below_step HB.out hb); (try clear Fw); (try clear Fx); (try clear Fy); (try clear Fg); (try clear HB); (try clear hb); (try clear hd); have Fw := n0_; have Fx := n1_; have Fy := n2_; have Fg := n3_; have HB := nb_; clear nb_ n0_ n1_ n2_ n3_))
  clear Fx Fy
  go_wp2_with (first | (go_at_call 17; (with_reducible refine (laws_toIntSS.calls k2 _ _ l1 l1 _ (Kd.C_below HR1.out HB.out) HC1.out E2.out).mono ?_); rintro e w18_ ⟨v18_0, rfl, ho0, hb⟩; obtain ⟨A18_0, c18_0, rfl⟩ := Kd.S_slice ho0; have s18_ := Aside0.mk hb.size; have n0_ := Aside0.mk (show Kd.S (Kd.slice 3 (Kd.int .i64)) 28 w18_ w.heap.size (fun k_ => (w3_.heap.size ≤ k_ ∧ k_ < w4_.heap.size)) (.slice A4_0 Y.length c4_0) Y from Kd.S_below Fw.out hb); have n1_ := Aside0.mk (show Kd.S (Kd.slice 3 (Kd.int .i64)) 28 w18_ w.heap.size (fun k_ => ((w6_.heap.size ≤ k_ ∧ k_ < w7_.heap.size) ∨ (w15_.heap.size ≤ k_ ∧ k_ < w16_.heap.size))) (.slice A7_0 Y.length c7_0) M from Kd.S_below Fg.out hb); have n2_ := Aside0.mk (show Kd.S (Kd.slice 3 (Kd.int .i64)) 28 w18_ w.heap.size (fun k_ => (w17_.heap.size ≤ k_ ∧ k_ < w18_.heap.size)) (.slice A18_0 l1.length c18_0) l1 from Kd.S_lower (Kd.S_mono (Kd.S_bound ho0) (fun k_ hk => (⟨hk.2.1, hk.2.2.1⟩ : _ ∧ _))) (below_size HB.out)); have nb_ := Aside0.mk (below_step HB.out hb); (try clear Fw); (try clear Fg); (try clear Fx); (try clear HB); (try clear hb); (try clear ho0); have Fw := n0_; have Fg := n1_; have Fx := n2_; have HB := nb_; clear nb_ n0_ n1_ n2_))
  go_wp2_with (first | (go_at_call 21; (with_reducible refine (laws_toIntS.calls k3 _ _ l2 l2 _ (Kd.C_below HR2.out HB.out) HC2.out E3.out).mono ?_); rintro e w19_ ⟨v19_0, rfl, ho0, hb⟩; obtain ⟨A19_0, c19_0, rfl⟩ := Kd.R_slice ho0; have s19_ := Aside0.mk hb.size; have n0_ := Aside0.mk (show Kd.S (Kd.slice 3 (Kd.int .i64)) 28 w19_ w.heap.size (fun k_ => (w3_.heap.size ≤ k_ ∧ k_ < w4_.heap.size)) (.slice A4_0 Y.length c4_0) Y from Kd.S_below Fw.out hb); have n1_ := Aside0.mk (show Kd.S (Kd.slice 3 (Kd.int .i64)) 28 w19_ w.heap.size (fun k_ => ((w6_.heap.size ≤ k_ ∧ k_ < w7_.heap.size) ∨ (w15_.heap.size ≤ k_ ∧ k_ < w16_.heap.size))) (.slice A7_0 Y.length c7_0) M from Kd.S_below Fg.out hb); have n2_ := Aside0.mk (show Kd.S (Kd.slice 3 (Kd.int .i64)) 28 w19_ w.heap.size (fun k_ => (w17_.heap.size ≤ k_ ∧ k_ < w18_.heap.size)) (.slice A18_0 l1.length c18_0) l1 from Kd.S_below Fx.out hb); have n3_ := Aside0.mk (show Kd.R (Kd.int .i64) 3 w19_ w.heap.size (fun k_ => (w18_.heap.size ≤ k_ ∧ k_ < w19_.heap.size)) (.slice A19_0 l2.length c19_0) l2 from Kd.R_lower (Kd.R_mono (Kd.R_bound ho0) (fun k_ hk => (⟨hk.2.1, hk.2.2.1⟩ : _ ∧ _))) (below_size HB.out)); have nb_ := Aside0.mk (below_step HB.out hb); (try clear Fw); (try clear Fg); (try clear Fx); (try clear Fy); (try clear HB); (try clear hb); (try clear ho0); have Fw := n0_; have Fg := n1_; have Fx := n2_; have Fy := n3_; have HB := nb_; clear nb_ n0_ n1_ n2_ n3_))
  go_wp2_with (first | (go_at_call 44; (with_reducible refine (impl_AddRound.calls k5 p _ _ l1 _ _ l2 Y b _ (Kd.S_reads' Fx.out).2.2 (Kd.S_reads' Fx.out).2.1 (Kd.R_reads' Fy.out).2.2 (Kd.R_reads' Fy.out).2.1 E5.out).mono ?_); rintro e w20_ ⟨v20_0, rfl, ho0, hb⟩; obtain ⟨A20_0, c20_0, rfl⟩ := Kd.S_slice ho0; have s20_ := Aside0.mk hb.size; have n0_ := Aside0.mk (show Kd.S (Kd.slice 3 (Kd.int .i64)) 28 w20_ w.heap.size (fun k_ => (w3_.heap.size ≤ k_ ∧ k_ < w4_.heap.size)) (.slice A4_0 Y.length c4_0) Y from Kd.S_below Fw.out hb); have n1_ := Aside0.mk (show Kd.S (Kd.slice 3 (Kd.int .i64)) 28 w20_ w.heap.size (fun k_ => ((w6_.heap.size ≤ k_ ∧ k_ < w7_.heap.size) ∨ (w15_.heap.size ≤ k_ ∧ k_ < w16_.heap.size))) (.slice A7_0 Y.length c7_0) M from Kd.S_below Fg.out hb); have n2_ := Aside0.mk (show Kd.S (Kd.slice 3 (Kd.int .i64)) 28 w20_ w.heap.size (fun k_ => (w17_.heap.size ≤ k_ ∧ k_ < w18_.heap.size)) (.slice A18_0 l1.length c18_0) l1 from Kd.S_below Fx.out hb); have n3_ := Aside0.mk (show Kd.R (Kd.int .i64) 3 w20_ w.heap.size (fun k_ => (w18_.heap.size ≤ k_ ∧ k_ < w19_.heap.size)) (.slice A19_0 l2.length c19_0) l2 from Kd.R_below Fy.out hb); have n4_ := Aside0.mk (show Kd.S (Kd.slice 3 (Kd.int .i64)) 28 w20_ w.heap.size (fun k_ => (w19_.heap.size ≤ k_ ∧ k_ < w20_.heap.size)) (.slice A20_0 Y.length c20_0) Y from Kd.S_lower (Kd.S_mono (Kd.S_bound ho0) (fun k_ hk => (⟨hk.2.1, hk.2.2.1⟩ : _ ∧ _))) (below_size HB.out)); have nb_ := Aside0.mk (below_step HB.out hb); (try clear Fw); (try clear Fg); (try clear Fx); (try clear Fy); (try clear Fh); (try clear HB); (try clear hb); (try clear ho0); have Fw := n0_; have Fg := n1_; have Fx := n2_; have Fy := n3_; have Fh := n4_; have HB := nb_; clear nb_ n0_ n1_ n2_ n3_ n4_))
  go_wp2_with (first | (go_at_call 19; (with_reducible refine (laws_eqIntSS.calls k6 _ _ Y _ _ Y true _ (Kd.S_reads' Fh.out).2.2 (Kd.S_reads' Fh.out).2.1 (Kd.S_reads' Fw.out).2.2 (Kd.S_reads' Fw.out).2.1 E6.out).mono ?_); rintro e w21_ ⟨rfl, hd⟩; have hb := hd.below; have s21_ := Aside0.mk hb.size; have n0_ := Aside0.mk (show Kd.S (Kd.slice 3 (Kd.int .i64)) 28 w21_ w.heap.size (fun k_ => (w3_.heap.size ≤ k_ ∧ k_ < w4_.heap.size)) (.slice A4_0 Y.length c4_0) Y from Kd.S_below Fw.out hb); have n1_ := Aside0.mk (show Kd.S (Kd.slice 3 (Kd.int .i64)) 28 w21_ w.heap.size (fun k_ => ((w6_.heap.size ≤ k_ ∧ k_ < w7_.heap.size) ∨ (w15_.heap.size ≤ k_ ∧ k_ < w16_.heap.size))) (.slice A7_0 Y.length c7_0) M from Kd.S_below Fg.out hb); have n2_ := Aside0.mk (show Kd.S (Kd.slice 3 (Kd.int .i64)) 28 w21_ w.heap.size (fun k_ => (w17_.heap.size ≤ k_ ∧ k_ < w18_.heap.size)) (.slice A18_0 l1.length c18_0) l1 from Kd.S_below Fx.out hb); have n3_ := Aside0.mk (show Kd.R (Kd.int .i64) 3 w21_ w.heap.size (fun k_ => (w18_.heap.size ≤ k_ ∧ k_ < w19_.heap.size)) (.slice A19_0 l2.length c19_0) l2 from Kd.R_below Fy.out hb); have n4_ := Aside0.mk (show Kd.S (Kd.slice 3 (Kd.int .i64)) 28 w21_ w.heap.size (fun k_ => (w19_.heap.size ≤ k_ ∧ k_ < w20_.heap.size)) (.slice A20_0 Y.length c20_0) Y from Kd.S_below Fh.out hb); have nb_ := Aside0.mk (below_step HB.out hb); (try clear Fw); (try clear Fg); (try clear Fx); (try clear Fy); (try clear Fh); (try clear HB); (try clear hb); (try clear hd); have Fw := n0_; have Fg := n1_; have Fx := n2_; have Fy := n3_; have Fh := n4_; have HB := nb_; clear nb_ n0_ n1_ n2_ n3_ n4_))
  go_wp2_with (first | (go_at_call 46; refine calls_of_args (args' := #[.slice A7_0 M.length c7_0, .int .i64 1]) (by rw [← (Kd.S_reads' Fg.out).1]) ?_; (with_reducible refine (laws_heldIntSS.calls k12 _ _ M 1 m _ (Kd.S_reads' Fg.out).2.2 (by have h_ := Kd.S_reads' Fg.out; omega) E12.out).mono ?_); rintro e w22_ ⟨rfl, hd⟩; have hb := hd.below; have s22_ := Aside0.mk hb.size; have n0_ := Aside0.mk (show Kd.S (Kd.slice 3 (Kd.int .i64)) 28 w22_ w.heap.size (fun k_ => (w3_.heap.size ≤ k_ ∧ k_ < w4_.heap.size)) (.slice A4_0 Y.length c4_0) Y from Kd.S_below Fw.out hb); have n1_ := Aside0.mk (show Kd.S (Kd.slice 3 (Kd.int .i64)) 28 w22_ w.heap.size (fun k_ => ((w6_.heap.size ≤ k_ ∧ k_ < w7_.heap.size) ∨ (w15_.heap.size ≤ k_ ∧ k_ < w16_.heap.size))) (.slice A7_0 Y.length c7_0) M from Kd.S_below Fg.out hb); have n2_ := Aside0.mk (show Kd.S (Kd.slice 3 (Kd.int .i64)) 28 w22_ w.heap.size (fun k_ => (w17_.heap.size ≤ k_ ∧ k_ < w18_.heap.size)) (.slice A18_0 l1.length c18_0) l1 from Kd.S_below Fx.out hb); have n3_ := Aside0.mk (show Kd.R (Kd.int .i64) 3 w22_ w.heap.size (fun k_ => (w18_.heap.size ≤ k_ ∧ k_ < w19_.heap.size)) (.slice A19_0 l2.length c19_0) l2 from Kd.R_below Fy.out hb); have n4_ := Aside0.mk (show Kd.S (Kd.slice 3 (Kd.int .i64)) 28 w22_ w.heap.size (fun k_ => (w19_.heap.size ≤ k_ ∧ k_ < w20_.heap.size)) (.slice A20_0 Y.length c20_0) Y from Kd.S_below Fh.out hb); have nb_ := Aside0.mk (below_step HB.out hb); (try clear Fw); (try clear Fg); (try clear Fx); (try clear Fy); (try clear Fh); (try clear HB); (try clear hb); (try clear hd); have Fw := n0_; have Fg := n1_; have Fx := n2_; have Fy := n3_; have Fh := n4_; have HB := nb_; clear nb_ n0_ n1_ n2_ n3_ n4_))
  go_ret
  exact ⟨rfl, HB.out⟩

end Go.Proofs.Ytcegnlconafikaa.Pure
