/- In the given program FnExactTotalOf answers true for every input, by what its functions compute; no condition. -/
import Derived.Test.YtcegnlconafikaaQFnExactTotalOfx3
import Derived.Test.YtcegnlconafikaaLib
import Derived.Test.YtcegnlconafikaaCards
import Derived.Test.YtcegnlconafikaaSheets
namespace Go.Proofs.Ytcegnlconafikaa.Pure
open Go.RowKit Go.Proofs.Ytcegnlconafikaa.QFnExactTotalOf Go.Proofs.YtcegnlconafikaaW.PrintWords Go.Proofs.YtcegnlconafikaaW.PrintLast Go.Proofs.YtcegnlconafikaaW.PrintMore Go.Proofs.Ytcegnlconafikaa.Lib
set_option linter.unusedVariables false
set_option linter.unusedSimpArgs false

theorem laws_szIntS_eq (l : List Int) (a : Int) (ha : -1 ≤ a ∧ a ≤ 1048576) (hl : l.length ≤ maxLen) : laws_szIntS.f l a = some (bLeft a l.length) := by
  simp only [maxLen] at hl
  unfold laws_szIntS.f bLeft
  rw [w64 _ (by omega)]
  split <;> rfl

theorem rdss_at (l : List (List Int)) (i : Nat) (h : i < l.length) : rd_L1 l (i : Int) = l[i] := by
  unfold rd_L1
  rw [Int.toNat_natCast, List.getD_eq_getElem?_getD, List.getElem?_eq_getElem h]
  rfl
theorem laws_szIntSS_ev (l : List (List Int)) (a : Int) (ha : 0 ≤ a ∧ a ≤ 1048576) (hl : l.length ≤ maxLen) (hr : ∀ r ∈ l, r.length ≤ maxLen) : Ev (fun k => laws_szIntSS.f k l a) (bLeft a (l.length + totalLen l)) := by
  simp only [maxLen] at hl
  simp only [laws_szIntSS.f]
  rw [w64 (a - (l.length : Int)) (by omega)]
  refine ev_ite (fun h => ev_ret ?_) (fun h => ?_)
  · exact (bLeft_no (by unfold bLeft; rw [if_pos h]; omega)).symm
  · have h0 : ¬ bLeft a l.length < 0 := by unfold bLeft; rw [if_neg h]; exact h
    have e0 := (bLeft_some h0).2
    rw [← e0]
    refine ev_done (ev_loop (fun k (s : Int) i => laws_szIntSS.l0 k l s i) l (fun s r => bLeft s (totalLen r)) (fun s i => 0 ≤ s ∧ s ≤ 1048576 ∧ l.length ≤ 1048576) ?_ ?_ (bLeft a l.length) 0 (by omega) ⟨by omega, by omega, by omega⟩) ?_
    · rintro s ⟨h1, _, _⟩
      refine ev_unfold (fun k => rfl) ?_
      simp only [laws_szIntSS.l0]
      refine ev_neg (by omega) (ev_ret ?_)
      unfold bLeft totalLen
      simp; omega
    · rintro s i hi ⟨h1, h2, h3⟩ ih
      refine ev_unfold (fun k => rfl) ?_
      simp only [laws_szIntSS.l0]
      rw [w64next i (by omega), rdss_at l i hi, totalLen_cons]
      refine ev_pos (by omega) (ev_pos (by omega) (ev_eq (laws_szIntS_eq _ _ (by omega) (hr _ (List.getElem_mem hi))) ?_))
      refine ev_ite (fun h => ev_ret (bLeft_no h).symm) (fun h => ?_)
      have h4 := bLeft_some h
      refine ev_done (ih (bLeft s l[i].length) ⟨by omega, by omega, h3⟩) ?_
      exact bLeft_then h
    · rw [List.drop_zero]; exact bLeft_then h0

theorem spec_l1In_eq (n a b : Int) : spec_l1In.f n a b = some (inR n a b) := by
  unfold spec_l1In.f inR
  by_cases h : a ≤ n
  · rw [if_pos (by omega)]; simp [h]
  · rw [if_neg (by omega)]; simp [h]

theorem spec_IsRound_ev (p : Int) (l : List Int) (hl : l.length ≤ 1048576000) : Ev (fun k => spec_IsRound.f k p l) (isRound p l) := by
  simp only [spec_IsRound.f]
  refine ev_loop (fun k (s : Int) i => spec_IsRound.l0 k p l s i) l (fun s r => r.all (fun x => inR x (-1000) 1000) && (inR p 2 6 && (decide ((l.length : Int) = p) && (wsum s r == 0)))) (fun _ _ => True) ?_ ?_ 0 0 (by omega) trivial
  · rintro s _
    refine ev_unfold (fun k => rfl) ?_
    simp only [spec_IsRound.l0, spec_l1In_eq, Option.bind_some]
    refine ev_neg (by omega) ?_
    refine ev_ite (fun h => ?_) (fun h => ?_)
    · refine ev_ite (fun h2 => ?_) (fun h2 => ?_)
      · refine ev_ret ?_
        simp [h, h2, wsum]
      · refine ev_ret ?_
        simp [h2]
    · refine ev_ret ?_
      simp [h]
  · rintro s i hi _ ih
    refine ev_unfold (fun k => rfl) ?_
    simp only [spec_IsRound.l0, spec_l1In_eq, Option.bind_some]
    refine ev_pos (by omega) (ev_pos (by omega) ?_)
    rw [w64next i (by omega), rd_at l i hi, List.all_cons]
    refine ev_ite (fun h => ?_) (fun h => ?_)
    · rw [h, Bool.true_and]; exact ih _ trivial
    · rw [Bool.not_eq_true] at h
      rw [h, Bool.false_and, Bool.false_and]; exact Ev.now _

theorem spec_IsSheet_ev (p : Int) (l : List (List Int)) (hl : l.length ≤ 1048576000) (hr : ∀ r ∈ l, r.length ≤ 1048576000) : Ev (fun k => spec_IsSheet.f k p l) (isSheet p l) := by
  simp only [spec_IsSheet.f]
  refine ev_done (ev_loop (fun k (_ : Unit) i => spec_IsSheet.l0 k p l i) l (fun _ r => r.all (isRound p) && (inR p 2 6 && decide (l.length ≤ 50))) (fun _ _ => True) ?_ ?_ () 0 (by omega) trivial) rfl
  · rintro _ _
    refine ev_unfold (fun k => rfl) ?_
    simp only [spec_IsSheet.l0, spec_l1In_eq, Option.bind_some]
    refine ev_neg (by omega) (ev_ite (fun h => ev_ret ?_) (fun h => ev_ret ?_))
    · simp [h]; omega
    · simp [h]
  · rintro _ i hi _ ih
    refine ev_unfold (fun k => rfl) ?_
    simp only [spec_IsSheet.l0]
    rw [w64next i (by omega), rdss_at l i hi, List.all_cons]
    refine ev_pos (by omega) (ev_pos (by omega) (Ev.bind (spec_IsRound_ev p _ (hr _ (List.getElem_mem hi))) ?_))
    refine ev_ite (fun h => ?_) (fun h => ev_ret ?_)
    · rw [h, Bool.true_and]; exact ih () trivial
    · rw [Bool.not_eq_true] at h; rw [h]; simp

theorem spec_TotalOf_ev (p : Int) (l : List (List Int)) (w : Int) (hl : l.length ≤ 1048576000) (hr : ∀ r ∈ l, r.length ≤ 1048576000) (hp : -9223372036854775808 ≤ p ∧ p ≤ 9223372036854775807) : Ev (fun k => spec_TotalOf.f k p l w) (totalOf p l w) := by
  simp only [spec_TotalOf.f]
  refine ev_done (ev_loop (fun k (s : Int) i => spec_TotalOf.l0 k p l w s i) l (fun s r => if isSheet p l = true ∧ inR w 0 (p - 1) = true then totalF w s r else s) (fun _ _ => True) ?_ ?_ 0 0 (by omega) trivial) rfl
  · rintro s _
    refine ev_unfold (fun k => rfl) ?_
    simp only [spec_TotalOf.l0]
    refine ev_neg (by omega) (ev_ret ?_)
    simp [totalF]
  · rintro s i hi _ ih
    refine ev_unfold (fun k => rfl) ?_
    simp only [spec_TotalOf.l0, spec_l1In_eq, Option.bind_some]
    rw [w64next i (by omega), rdss_at l i hi]
    refine ev_pos (by omega) (Ev.bind (spec_IsSheet_ev p l hl hr) (ev_ite (fun h => ?_) (fun h => ev_ret ?_)))
    · have hp2 := isSheet_p h
      have hrow := isSheet_row h (List.getElem_mem hi)
      rw [w64 (p - 1) (by omega)]
      refine ev_ite (fun h2 => ?_) (fun h2 => ev_ret ?_)
      · have h3 := (inR_iff _ _ _).1 h2
        refine ev_pos (by omega) (ev_pos (by omega) (ev_pos (by omega) (ev_done (ih _ trivial) ?_)))
        rw [if_pos ⟨h, h2⟩, if_pos ⟨h, h2⟩]; rfl
      · rw [if_neg (fun z => h2 z.2)]
    · rw [if_neg (fun z => h z.1)]

theorem laws_toIntS_ev (l : List Int) (hl : l.length ≤ 1048576000) : Ev (fun k => laws_toIntS.f k l) l := by
  simp only [laws_toIntS.f]
  refine ev_pos (by omega) (ev_pos (by omega) ?_)
  refine ev_loop (fun k (s : List Int) i => laws_toIntS.l0 k l s i) l (fun _ _ => l) (fun s i => s.length = l.length ∧ s.take i = l.take i) ?_ ?_ _ 0 (by omega) ⟨by simp, by simp⟩
  · rintro s ⟨h1, h2⟩
    refine ev_unfold (fun k => rfl) ?_
    simp only [laws_toIntS.l0]
    refine ev_neg (by omega) (ev_ret ?_)
    rw [List.take_of_length_le (by omega), List.take_of_length_le (by omega)] at h2
    exact h2
  · rintro s i hi ⟨h1, h2⟩ ih
    refine ev_unfold (fun k => rfl) ?_
    simp only [laws_toIntS.l0]
    refine ev_pos (by omega) (ev_pos (by omega) (ev_pos (by omega) ?_))
    rw [w64next i (by omega), rd_at l i hi, Int.toNat_natCast]
    refine ih _ ⟨by simpa using h1, ?_⟩
    apply List.ext_getElem
    · simp; omega
    · intro j hj1 hj2
      simp at hj1 hj2
      simp only [List.getElem_take, List.getElem_set]
      by_cases hij : i = j
      · subst hij; simp
      · rw [if_neg hij]
        have h3 : (s.take i)[j]'(by simp; omega) = (l.take i)[j]'(by simp; omega) := by simp only [h2]
        simpa using h3

theorem laws_toIntSS_ev (l : List (List Int)) (hl : l.length ≤ 1048576000) (hr : ∀ r ∈ l, r.length ≤ 1048576000) : Ev (fun k => laws_toIntSS.f k l) l := by
  simp only [laws_toIntSS.f]
  refine ev_pos (by omega) (ev_pos (by omega) ?_)
  refine ev_loopN (fun k (s : List (List Int)) i => laws_toIntSS.l0 k l s i) l.length (fun _ _ => l) (fun s i => s.length = l.length ∧ s.take i = l.take i) ?_ ?_ _ 0 (by omega) ⟨by simp, by simp⟩
  · rintro s ⟨h1, h2⟩
    refine ev_unfold (fun k => rfl) ?_
    simp only [laws_toIntSS.l0]
    refine ev_neg (by omega) (ev_ret ?_)
    rw [List.take_of_length_le (by omega), List.take_of_length_le (by omega)] at h2
    exact h2
  · rintro s i hi ⟨h1, h2⟩ ih
    refine ev_unfold (fun k => rfl) ?_
    simp only [laws_toIntSS.l0]
    rw [w64next i (by omega), rdss_at l i hi, Int.toNat_natCast]
    refine ev_pos (by omega) (ev_pos (by omega) (Ev.bind (laws_toIntS_ev _ (hr _ (List.getElem_mem hi))) (ev_pos (by omega) ?_)))
    refine ih _ ⟨by simpa using h1, ?_⟩
    apply List.ext_getElem
    · simp; omega
    · intro j hj1 hj2
      simp at hj1 hj2
      simp only [List.getElem_take, List.getElem_set]
      by_cases hij : i = j
      · subst hij; simp
      · rw [if_neg hij]
        have h3 : (s.take i)[j]'(by simp; omega) = (l.take i)[j]'(by simp; omega) := by simp only [h2]
        simpa using h3

theorem impl_InRange_eq (n a b : Int) : impl_InRange.f n a b = some (inR n a b) := by
  unfold impl_InRange.f inR
  by_cases h : a ≤ n
  · rw [if_pos (by omega)]; simp [h]
  · rw [if_neg (by omega)]; simp [h]

theorem impl_allIn_ev (l : List Int) (a b : Int) (hl : l.length ≤ 1048576000) : Ev (fun k => impl_allIn.f k l a b) (l.all fun x => inR x a b) := by
  simp only [impl_allIn.f]
  refine ev_loop (fun k (_ : Unit) i => impl_allIn.l0 k a b l (l.length : Int) i) l (fun _ r => r.all fun x => inR x a b) (fun _ _ => True) ?_ ?_ () 0 (by omega) trivial
  · rintro s _
    refine ev_unfold (fun k => rfl) ?_
    simp only [impl_allIn.l0]
    exact ev_neg (by omega) (ev_ret rfl)
  · rintro s i hi _ ih
    refine ev_unfold (fun k => rfl) ?_
    simp only [impl_allIn.l0]
    refine ev_pos (by omega) (ev_pos (by omega) (ev_pos (by omega) (ev_eq (impl_InRange_eq _ _ _) ?_)))
    rw [w64next i (by omega), rd_at l i hi, List.all_cons]
    refine ev_ite (fun h => ?_) (fun h => ?_)
    · rw [h, Bool.true_and]; exact ih () trivial
    · rw [Bool.not_eq_true] at h
      rw [h, Bool.false_and]; exact Ev.now _

theorem impl_sum_ev (l : List Int) (hl : l.length ≤ 1048576000) : Ev (fun k => impl_sum.f k l) (wsum 0 l) := by
  simp only [impl_sum.f]
  refine ev_loop (fun k (s : Int) i => impl_sum.l0 k s l (l.length : Int) i) l (fun s r => wsum s r) (fun _ _ => True) ?_ ?_ 0 0 (by omega) trivial
  · rintro s _
    refine ev_unfold (fun k => rfl) ?_
    simp only [impl_sum.l0]
    exact ev_neg (by omega) (ev_ret rfl)
  · rintro s i hi _ ih
    refine ev_unfold (fun k => rfl) ?_
    simp only [impl_sum.l0]
    refine ev_pos (by omega) (ev_pos (by omega) (ev_pos (by omega) ?_))
    rw [w64next i (by omega), rd_at l i hi]
    exact ih _ trivial

theorem impl_IsRound_ev (p : Int) (l : List Int) (hl : l.length ≤ 1048576000) : Ev (fun k => impl_IsRound.f k p l) (isRound p l) := by
  simp only [impl_IsRound.f, impl_InRange_eq, Option.bind_some]
  unfold isRound
  refine ev_ite (fun h => ?_) (fun h => ?_)
  · refine ev_ite (fun h2 => ?_) (fun h2 => ?_)
    · refine Ev.bind (impl_allIn_ev l _ _ hl) ?_
      refine ev_ite (fun h3 => ?_) (fun h3 => ?_)
      · refine Ev.bind (impl_sum_ev l hl) (ev_ret ?_)
        simp [h, h2, h3]
      · refine ev_ret ?_
        rw [Bool.not_eq_true] at h3
        rw [h3, Bool.false_and]
    · refine ev_ret ?_
      simp [h2]
  · refine ev_ret ?_
    simp [h]

theorem impl_IsSheet_ev (p : Int) (l : List (List Int)) (hl : l.length ≤ 1048576000) (hr : ∀ r ∈ l, r.length ≤ 1048576000) : Ev (fun k => impl_IsSheet.f k p l) (isSheet p l) := by
  simp only [impl_IsSheet.f]
  refine ev_done (ev_loop (fun k (_ : Unit) i => impl_IsSheet.l0 k p l l (l.length : Int) i) l (fun _ r => r.all (isRound p) && (inR p 2 6 && decide (l.length ≤ 50))) (fun _ _ => True) ?_ ?_ () 0 (by omega) trivial) rfl
  · rintro _ _
    refine ev_unfold (fun k => rfl) ?_
    simp only [impl_IsSheet.l0, impl_InRange_eq, Option.bind_some]
    refine ev_neg (by omega) (ev_ite (fun h => ev_ret ?_) (fun h => ev_ret ?_))
    · simp [h]; omega
    · simp [h]
  · rintro _ i hi _ ih
    refine ev_unfold (fun k => rfl) ?_
    simp only [impl_IsSheet.l0]
    rw [w64next i (by omega), rdss_at l i hi, List.all_cons]
    refine ev_pos (by omega) (ev_pos (by omega) (ev_pos (by omega) (Ev.bind (impl_IsRound_ev p _ (hr _ (List.getElem_mem hi))) ?_)))
    refine ev_ite (fun h => ?_) (fun h => ev_ret ?_)
    · rw [h, Bool.true_and]; exact ih () trivial
    · rw [Bool.not_eq_true] at h; rw [h]; simp

theorem impl_TotalOf_ev (p : Int) (l : List (List Int)) (w : Int) (hl : l.length ≤ 1048576000) (hr : ∀ r ∈ l, r.length ≤ 1048576000) (hp : -9223372036854775808 ≤ p ∧ p ≤ 9223372036854775807) : Ev (fun k => impl_TotalOf.f k p l w) (totalOf p l w) := by
  have l0 : isSheet p l = true → inR w 0 (p - 1) = true → Ev (fun k => impl_TotalOf.l0 k w 0 l (l.length : Int) 0) (totalF w 0 l) := by
    intro h h2
    refine ev_loop (fun k (s : Int) i => impl_TotalOf.l0 k w s l (l.length : Int) i) l (fun s r => totalF w s r) (fun _ _ => True) ?_ ?_ 0 0 (by omega) trivial
    · rintro s _
      refine ev_unfold (fun k => rfl) ?_
      simp only [impl_TotalOf.l0]
      exact ev_neg (by omega) (ev_ret rfl)
    · rintro s i hi _ ih
      have h3 := (inR_iff _ _ _).1 h2
      have hrow := isSheet_row h (List.getElem_mem hi)
      refine ev_unfold (fun k => rfl) ?_
      simp only [impl_TotalOf.l0]
      rw [w64next i (by omega), rdss_at l i hi]
      exact ev_pos (by omega) (ev_pos (by omega) (ev_pos (by omega) (ev_pos (by omega) (ev_pos (by omega) (ev_done (ih _ trivial) rfl)))))
  have j0 : ∀ b, (b = false → isSheet p l = true ∧ inR w 0 (p - 1) = true) → Ev (fun k => impl_TotalOf.j0 k l w b) (if b = true then 0 else totalF w 0 l) := by
    intro b hb
    refine ev_unfold (fun k => rfl) ?_
    simp only [impl_TotalOf.j0]
    refine ev_ite (fun h => ?_) (fun h => ?_)
    · rw [if_pos h]; exact Ev.now _
    · rw [if_neg h]
      have hb2 := hb (by simpa using h)
      exact l0 hb2.1 hb2.2
  simp only [impl_TotalOf.f, impl_InRange_eq, Option.bind_some]
  unfold totalOf
  refine Ev.bind (impl_IsSheet_ev p l hl hr) (ev_ite (fun h => ?_) (fun h => ev_done (j0 _ (fun z => by cases z)) ?_))
  · have hp2 := isSheet_p h
    rw [w64 (p - 1) (by omega)]
    refine ev_done (j0 _ (fun z => ⟨h, by simpa using z⟩)) ?_
    by_cases h2 : inR w 0 (p - 1) = true
    · simp [h, h2]
    · simp [h, h2]
  · rw [if_neg (show ¬ (isSheet p l = true ∧ inR w 0 (p - 1) = true) from fun z => h z.1)]; simp

theorem laws_eqIntS_ev (a b : List Int) (ha : a.length ≤ 1048576000) : Ev (fun k => laws_eqIntS.f k a b) (decide (a = b)) := by
  simp only [laws_eqIntS.f]
  refine ev_ite (fun hlen => ?_) (fun hne => ev_ret ?_)
  · have hlen' : a.length = b.length := by omega
    have h := ev_loop (fun k (_ : Unit) i => laws_eqIntS.l0 k a b i) a (fun _ r => decide (r = b.drop (a.length - r.length))) (fun _ _ => True) ?_ ?_ () 0 (by omega) trivial
    · refine ev_done h ?_
      simp
    · rintro _ _
      refine ev_unfold (fun k => rfl) ?_
      simp only [laws_eqIntS.l0]
      refine ev_neg (by omega) (ev_ret ?_)
      rw [List.length_nil, Nat.sub_zero, hlen', drop_end]
      simp
    · rintro _ i hi _ ih
      refine ev_unfold (fun k => rfl) ?_
      simp only [laws_eqIntS.l0]
      refine ev_pos (by omega) (ev_pos (by omega) (ev_pos (by omega) ?_))
      rw [w64next i (by omega), rd_at a i hi, rd_at b i (by omega)]
      have e1 : a.length - (a[i] :: a.drop (i + 1)).length = i := by simp; omega
      have e2 : a.length - (a.drop (i + 1)).length = i + 1 := by simp; omega
      refine ev_ite (fun heq => ?_) (fun hne => ev_ret ?_)
      · refine ev_done (ih () trivial) ?_
        rw [e1, e2, drop_at b i (by omega), heq]
        exact decide_eq_decide.2 ⟨fun h => by rw [h], fun h => (List.cons.inj h).2⟩
      · rw [e1, drop_at b i (by omega)]
        exact (decide_eq_false (fun h => hne (List.cons.inj h).1)).symm
  · have : a ≠ b := by rintro rfl; exact hne rfl
    simp [this]

theorem laws_eqIntSS_ev (a b : List (List Int)) (ha : a.length ≤ 1048576000) (hr : ∀ r ∈ a, r.length ≤ 1048576000) : Ev (fun k => laws_eqIntSS.f k a b) (decide (a = b)) := by
  simp only [laws_eqIntSS.f]
  refine ev_ite (fun hlen => ?_) (fun hne => ev_ret ?_)
  · have hlen' : a.length = b.length := by omega
    refine ev_done (ev_loopN (fun k (_ : Unit) i => laws_eqIntSS.l0 k a b i) a.length (fun _ i => decide (a.drop i = b.drop i)) (fun _ _ => True) ?_ ?_ () 0 (by omega) trivial) (by simp)
    · rintro _ _
      refine ev_unfold (fun k => rfl) ?_
      simp only [laws_eqIntSS.l0]
      refine ev_neg (by omega) (ev_ret ?_)
      rw [drop_end, hlen', drop_end]; simp
    · rintro _ i hi _ ih
      refine ev_unfold (fun k => rfl) ?_
      simp only [laws_eqIntSS.l0]
      rw [w64next i (by omega), rdss_at a i hi, rdss_at b i (by omega), drop_at a i hi, drop_at b i (by omega)]
      refine ev_pos (by omega) (ev_pos (by omega) (ev_pos (by omega) (Ev.bind (laws_eqIntS_ev _ _ (hr _ (List.getElem_mem hi))) ?_)))
      refine ev_ite (fun heq => ?_) (fun hne => ev_ret ?_)
      · refine ev_done (ih () trivial) ?_
        have heq' := of_decide_eq_true heq
        exact decide_eq_decide.2 ⟨fun h => by rw [h, heq'], fun h => (List.cons.inj h).2⟩
      · exact (decide_eq_false (fun h => hne (decide_eq_true (List.cons.inj h).1))).symm
  · have : a ≠ b := by rintro rfl; exact hne rfl
    simp [this]

theorem FnExactTotalOf : ∀ (p : Int) (l : List (List Int)) (w : Int), (Lit.int .i64 p).wf = true → l.length ≤ maxLen → (∀ r ∈ l, r.length ≤ maxLen) → (∀ r ∈ l, ∀ x ∈ r, (Lit.int .i64 x).wf = true) → (Lit.int .i64 w).wf = true → ∃ k, laws_FnExactTotalOf.f k p l w = some true := by
  intro p l w hp hl0 hr0 _ _
  refine Ev.rounds ?_
  simp only [laws_FnExactTotalOf.f]
  refine Ev.bind (laws_szIntSS_ev l 1048576 (by omega) hl0 hr0) (ev_ite (fun _ => Ev.now _) (fun h => ?_))
  have h2 := (bLeft_some h).1
  have hl : l.length ≤ 1048576000 := by omega
  have hr : ∀ r ∈ l, r.length ≤ 1048576000 := fun r hr => by have := len_le_total hr; omega
  refine Ev.bind (laws_toIntSS_ev l hl hr) (Ev.bind (spec_TotalOf_ev p l w hl hr (wf64 hp)) (Ev.bind (laws_toIntSS_ev l hl hr) (Ev.bind (impl_TotalOf_ev p l w hl hr (wf64 hp)) (ev_pos rfl ?_))))
  exact Ev.bind (laws_toIntSS_ev l hl hr) (Ev.bind (laws_eqIntSS_ev l l hl hr) (ev_pos (by simp) (Ev.now _)))

end Go.Proofs.Ytcegnlconafikaa.Pure
