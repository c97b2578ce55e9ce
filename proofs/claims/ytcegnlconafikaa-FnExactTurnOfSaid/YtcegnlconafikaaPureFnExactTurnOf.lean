/- In the given program FnExactTurnOf answers true for every input, by what its functions compute; no condition. -/
import Derived.Test.YtcegnlconafikaaQFnExactTurnOfx3
import Derived.Test.YtcegnlconafikaaLib
import Derived.Test.YtcegnlconafikaaCards
import Derived.Test.YtcegnlconafikaaSheets
namespace Go.Proofs.Ytcegnlconafikaa.Pure
open Go.RowKit Go.Proofs.Ytcegnlconafikaa.QFnExactTurnOf Go.Proofs.YtcegnlconafikaaW.PrintWords Go.Proofs.YtcegnlconafikaaW.PrintLast Go.Proofs.YtcegnlconafikaaW.PrintMore Go.Proofs.Ytcegnlconafikaa.Lib
set_option linter.unusedVariables false
set_option linter.unusedSimpArgs false

theorem laws_szIntS_eq (l : List Int) (a : Int) (ha : -1 ≤ a ∧ a ≤ 1048576) (hl : l.length ≤ maxLen) : laws_szIntS.f l a = some (bLeft a l.length) := by
  simp only [maxLen] at hl
  unfold laws_szIntS.f bLeft
  rw [w64 _ (by omega)]
  split <;> rfl

theorem rdss_at (l : List (List Int)) (i : Nat) (h : i < l.length) : rd_L1 l (i : Int) = l[i] := by
  unfold rd_L1
  rw [Int.toNat_natCast, List.getD_eq_getElem?_getD, List.getElem?_eq_getElem h]
  rfl
theorem laws_szIntSS_ev (l : List (List Int)) (a : Int) (ha : 0 ≤ a ∧ a ≤ 1048576) (hl : l.length ≤ maxLen) (hr : ∀ r ∈ l, r.length ≤ maxLen) : Ev (fun k => laws_szIntSS.f k l a) (bLeft a (l.length + totalLen l)) := by
  simp only [maxLen] at hl
  simp only [laws_szIntSS.f]
  rw [w64 (a - (l.length : Int)) (by omega)]
  refine ev_ite (fun h => ev_ret ?_) (fun h => ?_)
  · exact (bLeft_no (by unfold bLeft; rw [if_pos h]; omega)).symm
  · have h0 : ¬ bLeft a l.length < 0 := by unfold bLeft; rw [if_neg h]; exact h
    have e0 := (bLeft_some h0).2
    rw [← e0]
    refine ev_done (ev_loop (fun k (s : Int) i => laws_szIntSS.l0 k l s i) l (fun s r => bLeft s (totalLen r)) (fun s i => 0 ≤ s ∧ s ≤ 1048576 ∧ l.length ≤ 1048576) ?_ ?_ (bLeft a l.length) 0 (by omega) ⟨by omega, by omega, by omega⟩) ?_
    · rintro s ⟨h1, _, _⟩
      refine ev_unfold (fun k => rfl) ?_
      simp only [laws_szIntSS.l0]
      refine ev_neg (by omega) (ev_ret ?_)
      unfold bLeft totalLen
      simp; omega
    · rintro s i hi ⟨h1, h2, h3⟩ ih
      refine ev_unfold (fun k => rfl) ?_
      simp only [laws_szIntSS.l0]
      rw [w64next i (by omega), rdss_at l i hi, totalLen_cons]
      refine ev_pos (by omega) (ev_pos (by omega) (ev_eq (laws_szIntS_eq _ _ (by omega) (hr _ (List.getElem_mem hi))) ?_))
      refine ev_ite (fun h => ev_ret (bLeft_no h).symm) (fun h => ?_)
      have h4 := bLeft_some h
      refine ev_done (ih (bLeft s l[i].length) ⟨by omega, by omega, h3⟩) ?_
      exact bLeft_then h
    · rw [List.drop_zero]; exact bLeft_then h0

theorem laws_szDeal_ev (h : List (List Int)) (a1 a2 : Int) (t w p : List Int) (a6 : Int) (hl : h.length ≤ maxLen) (hr : ∀ r ∈ h, r.length ≤ maxLen) (ht : t.length ≤ maxLen) (hw : w.length ≤ maxLen) (hp : p.length ≤ maxLen) :
    Ev (fun k => laws_szDeal.f k h a1 a2 t w p a6 1048576) (bLeft 1048576 (h.length + totalLen h + t.length + w.length + p.length)) := by
  simp only [laws_szDeal.f]
  refine Ev.bind (laws_szIntSS_ev h 1048576 (by omega) hl hr) (ev_ite (fun hc => ev_ret ?_) (fun hc => ?_))
  · rw [Nat.add_assoc, Nat.add_assoc]; exact (bLeft_no hc).symm
  have e1 := bLeft_some hc
  refine ev_eq (laws_szIntS_eq t _ (by omega) ht) ?_
  rw [bLeft_then hc]
  refine ev_ite (fun hc => ev_ret ?_) (fun hc => ?_)
  · rw [Nat.add_assoc]; exact (bLeft_no hc).symm
  have e2 := bLeft_some hc
  refine ev_eq (laws_szIntS_eq w _ (by omega) hw) ?_
  rw [bLeft_then hc]
  refine ev_ite (fun hc => ev_ret (bLeft_no hc).symm) (fun hc => ?_)
  have e3 := bLeft_some hc
  refine ev_eq (laws_szIntS_eq p _ (by omega) hp) ?_
  rw [bLeft_then hc]
  refine ev_ite (fun hc => ev_ret ?_) (fun hc => Ev.now _)
  have := bLeft_no (m := 0) hc
  rw [Nat.add_zero] at this; exact this.symm

theorem spec_l1In_eq (n a b : Int) : spec_l1In.f n a b = some (inR n a b) := by
  unfold spec_l1In.f inR
  by_cases h : a ≤ n
  · rw [if_pos (by omega)]; simp [h]
  · rw [if_neg (by omega)]; simp [h]

theorem spec_TotalCards_ev (l : List (List Int)) (hl : l.length ≤ 1048576000) : Ev (fun k => spec_TotalCards.f k l) (cardsW 0 l) := by
  simp only [spec_TotalCards.f]
  refine ev_loop (fun k (s : Int) i => spec_TotalCards.l0 k l s i) l (fun s r => cardsW s r) (fun _ _ => True) ?_ ?_ 0 0 (by omega) trivial
  · rintro s _
    refine ev_unfold (fun k => rfl) ?_
    simp only [spec_TotalCards.l0]
    exact ev_neg (by omega) (ev_ret rfl)
  · rintro s i hi _ ih
    refine ev_unfold (fun k => rfl) ?_
    simp only [spec_TotalCards.l0]
    rw [w64next i (by omega), rdss_at l i hi]
    refine ev_pos (by omega) (ev_pos (by omega) ?_)
    exact ih _ trivial

theorem spec_TurnOf_ev (h : List (List Int)) (a1 a2 : Int) (t w p : List Int) (a6 : Int) (hl : h.length ≤ 1048576000) (ht : t.length ≤ 1048576000) : Ev (fun k => spec_TurnOf.f k h a1 a2 t w p a6) (turnOf h a1 t) := by
  simp only [spec_TurnOf.f, spec_l1In_eq, Option.bind_some]
  unfold turnOf
  refine ev_ite (fun h0 => ev_ret ?_) (fun h0 => ?_)
  · rw [if_pos h0]
  · rw [if_neg h0]
    refine Ev.bind (spec_TotalCards_ev h hl) (ev_ite (fun h1 => ev_ret ?_) (fun h1 => ?_))
    · rw [if_pos h1]
    · rw [if_neg h1, w64 ((h.length : Int) - 1) (by omega)]
      refine ev_ite (fun h2 => ev_ret ?_) (fun h2 => ev_ret ?_)
      · have h3 := (inR_iff _ _ _).1 h2
        rw [if_pos h2, w64 _ (by omega)]
      · rw [if_neg h2]

theorem laws_toIntS_ev (l : List Int) (hl : l.length ≤ 1048576000) : Ev (fun k => laws_toIntS.f k l) l := by
  simp only [laws_toIntS.f]
  refine ev_pos (by omega) (ev_pos (by omega) ?_)
  refine ev_loop (fun k (s : List Int) i => laws_toIntS.l0 k l s i) l (fun _ _ => l) (fun s i => s.length = l.length ∧ s.take i = l.take i) ?_ ?_ _ 0 (by omega) ⟨by simp, by simp⟩
  · rintro s ⟨h1, h2⟩
    refine ev_unfold (fun k => rfl) ?_
    simp only [laws_toIntS.l0]
    refine ev_neg (by omega) (ev_ret ?_)
    rw [List.take_of_length_le (by omega), List.take_of_length_le (by omega)] at h2
    exact h2
  · rintro s i hi ⟨h1, h2⟩ ih
    refine ev_unfold (fun k => rfl) ?_
    simp only [laws_toIntS.l0]
    refine ev_pos (by omega) (ev_pos (by omega) (ev_pos (by omega) ?_))
    rw [w64next i (by omega), rd_at l i hi, Int.toNat_natCast]
    refine ih _ ⟨by simpa using h1, ?_⟩
    apply List.ext_getElem
    · simp; omega
    · intro j hj1 hj2
      simp at hj1 hj2
      simp only [List.getElem_take, List.getElem_set]
      by_cases hij : i = j
      · subst hij; simp
      · rw [if_neg hij]
        have h3 : (s.take i)[j]'(by simp; omega) = (l.take i)[j]'(by simp; omega) := by simp only [h2]
        simpa using h3

theorem laws_toIntSS_ev (l : List (List Int)) (hl : l.length ≤ 1048576000) (hr : ∀ r ∈ l, r.length ≤ 1048576000) : Ev (fun k => laws_toIntSS.f k l) l := by
  simp only [laws_toIntSS.f]
  refine ev_pos (by omega) (ev_pos (by omega) ?_)
  refine ev_loopN (fun k (s : List (List Int)) i => laws_toIntSS.l0 k l s i) l.length (fun _ _ => l) (fun s i => s.length = l.length ∧ s.take i = l.take i) ?_ ?_ _ 0 (by omega) ⟨by simp, by simp⟩
  · rintro s ⟨h1, h2⟩
    refine ev_unfold (fun k => rfl) ?_
    simp only [laws_toIntSS.l0]
    refine ev_neg (by omega) (ev_ret ?_)
    rw [List.take_of_length_le (by omega), List.take_of_length_le (by omega)] at h2
    exact h2
  · rintro s i hi ⟨h1, h2⟩ ih
    refine ev_unfold (fun k => rfl) ?_
    simp only [laws_toIntSS.l0]
    rw [w64next i (by omega), rdss_at l i hi, Int.toNat_natCast]
    refine ev_pos (by omega) (ev_pos (by omega) (Ev.bind (laws_toIntS_ev _ (hr _ (List.getElem_mem hi))) (ev_pos (by omega) ?_)))
    refine ih _ ⟨by simpa using h1, ?_⟩
    apply List.ext_getElem
    · simp; omega
    · intro j hj1 hj2
      simp at hj1 hj2
      simp only [List.getElem_take, List.getElem_set]
      by_cases hij : i = j
      · subst hij; simp
      · rw [if_neg hij]
        have h3 : (s.take i)[j]'(by simp; omega) = (l.take i)[j]'(by simp; omega) := by simp only [h2]
        simpa using h3

theorem laws_toDeal_ev (h : List (List Int)) (a1 a2 : Int) (t w p : List Int) (a6 : Int) (hl : h.length ≤ 1048576000) (hr : ∀ r ∈ h, r.length ≤ 1048576000) (ht : t.length ≤ 1048576000) (hw : w.length ≤ 1048576000) (hp : p.length ≤ 1048576000) :
    Ev (fun k => laws_toDeal.f k h a1 a2 t w p a6) (h, a1, a2, t, w, p, a6) := by
  simp only [laws_toDeal.f]
  exact Ev.bind (laws_toIntSS_ev h hl hr) (Ev.bind (laws_toIntS_ev t ht) (Ev.bind (laws_toIntS_ev w hw) (Ev.bind (laws_toIntS_ev p hp) (Ev.now _))))

theorem impl_TotalCards_ev (l : List (List Int)) (hl : l.length ≤ 1048576000) : Ev (fun k => impl_TotalCards.f k l) (cardsW 0 l) := by
  simp only [impl_TotalCards.f]
  refine ev_loop (fun k (s : Int) i => impl_TotalCards.l0 k s l (l.length : Int) i) l (fun s r => cardsW s r) (fun _ _ => True) ?_ ?_ 0 0 (by omega) trivial
  · rintro s _
    refine ev_unfold (fun k => rfl) ?_
    simp only [impl_TotalCards.l0]
    exact ev_neg (by omega) (ev_ret rfl)
  · rintro s i hi _ ih
    refine ev_unfold (fun k => rfl) ?_
    simp only [impl_TotalCards.l0]
    rw [w64next i (by omega), rdss_at l i hi]
    refine ev_pos (by omega) (ev_pos (by omega) (ev_pos (by omega) ?_))
    exact ih _ trivial

theorem impl_InRange_eq (n a b : Int) : impl_InRange.f n a b = some (inR n a b) := by
  unfold impl_InRange.f inR
  by_cases h : a ≤ n
  · rw [if_pos (by omega)]; simp [h]
  · rw [if_neg (by omega)]; simp [h]

theorem impl_TurnOf_ev (h : List (List Int)) (a1 a2 : Int) (t w p : List Int) (a6 : Int) (hl : h.length ≤ 1048576000) (ht : t.length ≤ 1048576000) : Ev (fun k => impl_TurnOf.f k h a1 a2 t w p a6) (turnOf h a1 t) := by
  simp only [impl_TurnOf.f, impl_InRange_eq, Option.bind_some]
  unfold turnOf
  refine ev_ite (fun h0 => ev_ret ?_) (fun h0 => ?_)
  · rw [if_pos h0]
  · rw [if_neg h0]
    refine Ev.bind (impl_TotalCards_ev h hl) (ev_ite (fun h1 => ev_ret ?_) (fun h1 => ?_))
    · rw [if_pos h1]
    · rw [if_neg h1, w64 ((h.length : Int) - 1) (by omega)]
      refine ev_ite (fun h2 => ev_ret ?_) (fun h2 => ev_ret ?_)
      · have h3 := (inR_iff _ _ _).1 h2
        rw [if_pos h2, w64 _ (by omega)]
      · rw [if_neg h2]

theorem laws_eqIntS_ev (a b : List Int) (ha : a.length ≤ 1048576000) : Ev (fun k => laws_eqIntS.f k a b) (decide (a = b)) := by
  simp only [laws_eqIntS.f]
  refine ev_ite (fun hlen => ?_) (fun hne => ev_ret ?_)
  · have hlen' : a.length = b.length := by omega
    have h := ev_loop (fun k (_ : Unit) i => laws_eqIntS.l0 k a b i) a (fun _ r => decide (r = b.drop (a.length - r.length))) (fun _ _ => True) ?_ ?_ () 0 (by omega) trivial
    · refine ev_done h ?_
      simp
    · rintro _ _
      refine ev_unfold (fun k => rfl) ?_
      simp only [laws_eqIntS.l0]
      refine ev_neg (by omega) (ev_ret ?_)
      rw [List.length_nil, Nat.sub_zero, hlen', drop_end]
      simp
    · rintro _ i hi _ ih
      refine ev_unfold (fun k => rfl) ?_
      simp only [laws_eqIntS.l0]
      refine ev_pos (by omega) (ev_pos (by omega) (ev_pos (by omega) ?_))
      rw [w64next i (by omega), rd_at a i hi, rd_at b i (by omega)]
      have e1 : a.length - (a[i] :: a.drop (i + 1)).length = i := by simp; omega
      have e2 : a.length - (a.drop (i + 1)).length = i + 1 := by simp; omega
      refine ev_ite (fun heq => ?_) (fun hne => ev_ret ?_)
      · refine ev_done (ih () trivial) ?_
        rw [e1, e2, drop_at b i (by omega), heq]
        exact decide_eq_decide.2 ⟨fun h => by rw [h], fun h => (List.cons.inj h).2⟩
      · rw [e1, drop_at b i (by omega)]
        exact (decide_eq_false (fun h => hne (List.cons.inj h).1)).symm
  · have : a ≠ b := by rintro rfl; exact hne rfl
    simp [this]

theorem laws_eqIntSS_ev (a b : List (List Int)) (ha : a.length ≤ 1048576000) (hr : ∀ r ∈ a, r.length ≤ 1048576000) : Ev (fun k => laws_eqIntSS.f k a b) (decide (a = b)) := by
  simp only [laws_eqIntSS.f]
  refine ev_ite (fun hlen => ?_) (fun hne => ev_ret ?_)
  · have hlen' : a.length = b.length := by omega
    refine ev_done (ev_loopN (fun k (_ : Unit) i => laws_eqIntSS.l0 k a b i) a.length (fun _ i => decide (a.drop i = b.drop i)) (fun _ _ => True) ?_ ?_ () 0 (by omega) trivial) (by simp)
    · rintro _ _
      refine ev_unfold (fun k => rfl) ?_
      simp only [laws_eqIntSS.l0]
      refine ev_neg (by omega) (ev_ret ?_)
      rw [drop_end, hlen', drop_end]; simp
    · rintro _ i hi _ ih
      refine ev_unfold (fun k => rfl) ?_
      simp only [laws_eqIntSS.l0]
      rw [w64next i (by omega), rdss_at a i hi, rdss_at b i (by omega), drop_at a i hi, drop_at b i (by omega)]
      refine ev_pos (by omega) (ev_pos (by omega) (ev_pos (by omega) (Ev.bind (laws_eqIntS_ev _ _ (hr _ (List.getElem_mem hi))) ?_)))
      refine ev_ite (fun heq => ?_) (fun hne => ev_ret ?_)
      · refine ev_done (ih () trivial) ?_
        have heq' := of_decide_eq_true heq
        exact decide_eq_decide.2 ⟨fun h => by rw [h, heq'], fun h => (List.cons.inj h).2⟩
      · exact (decide_eq_false (fun h => hne (decide_eq_true (List.cons.inj h).1))).symm
  · have : a ≠ b := by rintro rfl; exact hne rfl
    simp [this]

theorem laws_eqDeal_ev (h : List (List Int)) (a1 a2 : Int) (t w p : List Int) (a6 : Int) (hl : h.length ≤ 1048576000) (hr : ∀ r ∈ h, r.length ≤ 1048576000) (ht : t.length ≤ 1048576000) (hw : w.length ≤ 1048576000) (hp : p.length ≤ 1048576000) :
    Ev (fun k => laws_eqDeal.f k h a1 a2 t w p a6 h a1 a2 t w p a6) true := by
  simp only [laws_eqDeal.f]
  exact Ev.bind (laws_eqIntSS_ev h h hl hr) (ev_pos (by simp) (ev_pos trivial (ev_pos trivial (Ev.bind (laws_eqIntS_ev t t ht) (ev_pos (by simp) (Ev.bind (laws_eqIntS_ev w w hw) (ev_pos (by simp) (Ev.bind (laws_eqIntS_ev p p hp) (ev_pos (by simp) (ev_pos trivial (Ev.now _)))))))))))

theorem FnExactTurnOf : ∀ (h : List (List Int)) (a1 a2 : Int) (t w p : List Int) (a6 : Int), h.length ≤ maxLen → (∀ r ∈ h, r.length ≤ maxLen) → (∀ r ∈ h, ∀ x ∈ r, (Lit.int .i64 x).wf = true) → (Lit.int .i64 a1).wf = true → (Lit.int .i64 a2).wf = true → t.length ≤ maxLen → (∀ x ∈ t, (Lit.int .i64 x).wf = true) → w.length ≤ maxLen → (∀ x ∈ w, (Lit.int .i64 x).wf = true) → p.length ≤ maxLen → (∀ x ∈ p, (Lit.int .i64 x).wf = true) → (Lit.int .i64 a6).wf = true → ∃ k, laws_FnExactTurnOf.f k h a1 a2 t w p a6 = some true := by
  intro h a1 a2 t w p a6 hl0 hr0 _ _ _ ht0 _ hw0 _ hp0 _ _
  refine Ev.rounds ?_
  simp only [laws_FnExactTurnOf.f]
  refine Ev.bind (laws_szDeal_ev h a1 a2 t w p a6 hl0 hr0 ht0 hw0 hp0) (ev_ite (fun _ => Ev.now _) (fun hc => ?_))
  have h2 := (bLeft_some hc).1
  have hl : h.length ≤ 1048576000 := by omega
  have hr : ∀ r ∈ h, r.length ≤ 1048576000 := fun r hr => by have := len_le_total hr; omega
  have ht : t.length ≤ 1048576000 := by omega
  have hw : w.length ≤ 1048576000 := by omega
  have hp : p.length ≤ 1048576000 := by omega
  have e := laws_toDeal_ev h a1 a2 t w p a6 hl hr ht hw hp
  refine Ev.bind e (Ev.bind (spec_TurnOf_ev h a1 a2 t w p a6 hl ht) (Ev.bind e (Ev.bind (impl_TurnOf_ev h a1 a2 t w p a6 hl ht) (ev_pos rfl ?_))))
  exact Ev.bind e (Ev.bind (laws_eqDeal_ev h a1 a2 t w p a6 hl hr ht hw hp) (ev_pos rfl (Ev.now _)))

end Go.Proofs.Ytcegnlconafikaa.Pure
