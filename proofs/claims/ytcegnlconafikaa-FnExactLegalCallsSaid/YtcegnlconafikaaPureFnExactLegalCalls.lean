/- In the given program FnExactLegalCalls answers true for every input, by what its functions compute; no condition. -/
import Derived.Test.YtcegnlconafikaaQFnExactLegalCallsx5
import Derived.Test.YtcegnlconafikaaLib
import Derived.Test.YtcegnlconafikaaCards
import Derived.Test.YtcegnlconafikaaCards2
import Derived.Test.YtcegnlconafikaaCalls
namespace Go.Proofs.Ytcegnlconafikaa.Pure
open Go.RowKit Go.Proofs.Ytcegnlconafikaa.QFnExactLegalCalls Go.Proofs.YtcegnlconafikaaW.PrintWords Go.Proofs.YtcegnlconafikaaW.PrintLast Go.Proofs.YtcegnlconafikaaW.PrintMore Go.Proofs.Ytcegnlconafikaa.Lib
set_option linter.unusedVariables false
set_option linter.unusedSimpArgs false

theorem spec_l1In_eq (n a b : Int) : spec_l1In.f n a b = some (inR n a b) := by
  unfold spec_l1In.f inR
  by_cases h : a ≤ n
  · rw [if_pos (by omega)]; simp [h]
  · rw [if_neg (by omega)]; simp [h]

theorem spec_CallsEnd_ev (p : Int) (l : List Int) (hl : l.length ≤ 1048576000) (hp : -9223372036854775808 ≤ p ∧ p ≤ 9223372036854775807) : Ev (fun k => spec_CallsEnd.f k p l) (callsEnd p l) := by
  have fin : ∀ n : Nat, n ≤ l.length → ∀ (r : Option Bool), r = (if (n : Int) = (l.length : Int) then (if p ≥ 1 then (some (decide ((n : Int) ≥ p))) else (some false)) else (if (n : Int) ≥ (wrap64 (p - 1)) then (some (decide (p ≥ 1))) else (some false))) → r = some (callsFin p l n) := by
    intro n hn r hr
    rw [hr]
    unfold callsFin
    by_cases h1 : 1 ≤ p
    · rw [w64 (p - 1) (by omega)]
      by_cases h2 : n = l.length
      · rw [if_pos (by omega), if_pos h1, if_pos h2]; simp [h1]
      · rw [if_neg (by omega), if_neg h2]
        by_cases h3 : (n : Int) ≥ p - 1
        · rw [if_pos h3]; simp [h1, h3]
        · rw [if_neg h3]; simp [h1, h3]
    · by_cases h2 : n = l.length
      · rw [if_pos (by omega), if_neg h1]; simp [h1]
      · rw [if_neg (by omega)]
        split <;> simp [h1]
  have hrl : l.reverse.length = l.length := by simp
  have h := ev_loop (fun k (_ : Unit) i => spec_CallsEnd.l0 k p l i) l.reverse (fun _ r => callsFin p l (l.length - r.length + passF r)) (fun _ _ => True) ?_ ?_ () 0 (by omega) trivial
  · simp only [spec_CallsEnd.f]
    refine ev_done h ?_
    simp [callsEnd]
  · rintro _ _
    refine ev_unfold (fun k => rfl) ?_
    simp only [spec_CallsEnd.l0, hrl]
    refine ev_neg (by omega) ?_
    refine Ev.congr (fun n => ?_) (Ev.now _)
    exact fin _ (by simp [passF]) _ (by simp [passF])
  · rintro _ i hi _ ih
    refine ev_unfold (fun k => rfl) ?_
    simp only [spec_CallsEnd.l0]
    rw [w64 ((l.length : Int) - 1) (by omega), w64 ((l.length : Int) - 1 - (i : Int)) (by omega), rd_rev l i hi, w64next i (by omega)]
    refine ev_pos (by omega) (ev_pos (by omega) (ev_pos (by omega) ?_))
    refine ev_ite (fun h => ?_) (fun h => ?_)
    · refine ev_done (ih () trivial) ?_
      congr 1
      unfold passF
      rw [if_pos h]
      simp only [List.length_drop, List.length_cons, hrl]
      cases hh : l.reverse.drop (i + 1) <;> simp [passF] <;> omega
    · refine Ev.congr (fun n => fin i (by omega) _ rfl) (ev_ret ?_)
      congr 1
      unfold passF
      rw [if_neg h]
      simp only [List.length_drop, List.length_cons, hrl]
      omega

theorem spec_Max_eq (a b : Int) : spec_Max.f a b = some (max a b) := by
  unfold spec_Max.f
  split <;> (congr 1; omega)

theorem spec_HighBid_ev (l : List Int) (hl : l.length ≤ 1048576000) : Ev (fun k => spec_HighBid.f k l) (l.foldl max 0) := by
  simp only [spec_HighBid.f]
  refine ev_loop (fun k (s : Int) i => spec_HighBid.l0 k l s i) l (fun s r => r.foldl max s) (fun _ _ => True) ?_ ?_ 0 0 (by omega) trivial
  · rintro s _
    refine ev_unfold (fun k => rfl) ?_
    simp only [spec_HighBid.l0]
    exact ev_neg (by omega) (ev_ret rfl)
  · rintro s i hi _ ih
    refine ev_unfold (fun k => rfl) ?_
    simp only [spec_HighBid.l0]
    refine ev_pos (by omega) (ev_pos (by omega) (ev_eq (spec_Max_eq _ _) ?_))
    rw [w64next i (by omega), rd_at l i hi]
    exact ih _ trivial

theorem spec_IsCalls_ev (p : Int) (l : List Int) (hl : l.length ≤ 1048576000) (hp : -9223372036854775808 ≤ p ∧ p ≤ 9223372036854775807) : Ev (fun k => spec_IsCalls.f k p l) (isCalls p l) := by
  simp only [spec_IsCalls.f]
  refine ev_done (ev_loopN (fun k (_ : Unit) i => spec_IsCalls.l0 k p l i) l.length (fun _ i => inR p 2 4 && ((l.drop i).all (fun x => inR x 0 35) && callsF p (l.take i) (l.drop i))) (fun _ _ => True) ?_ ?_ () 0 (by omega) trivial) ?_
  · rintro s _
    refine ev_unfold (fun k => rfl) ?_
    simp only [spec_IsCalls.l0, spec_l1In_eq, Option.bind_some]
    refine ev_neg (by omega) (ev_ret ?_)
    rw [drop_end]; simp [callsF]
  · rintro s i hi _ ih
    have ht : (l.take (i : Int).toNat).length ≤ 1048576000 := by simp; omega
    refine ev_unfold (fun k => rfl) ?_
    simp only [spec_IsCalls.l0, spec_l1In_eq, Option.bind_some]
    refine ev_pos (by omega) (ev_pos (by omega) ?_)
    rw [w64next i (by omega), rd_at l i hi, drop_at l i hi]
    refine ev_ite (fun h => ?_) (fun h => ?_)
    · have fin : ∀ g : Nat → Option Bool, (callsEnd p (l.take i) = false → (decide (l[i] > 0) && decide (l[i] ≤ highBid (l.take i))) = false → ∀ r, Ev (fun k => spec_IsCalls.l0 k p l ((i + 1 : Nat) : Int)) r → Ev g r) → (callsEnd p (l.take i) = true ∨ (decide (l[i] > 0) && decide (l[i] ≤ highBid (l.take i))) = true → Ev g false) → Ev g (inR p 2 4 && (((l[i] :: l.drop (i + 1)).all fun x => inR x 0 35) && callsF p (l.take i) (l[i] :: l.drop (i + 1)))) := by
        intro g h1 h2
        rw [List.all_cons, h, Bool.true_and]
        unfold callsF
        by_cases hc : callsEnd p (l.take i) = true ∨ (decide (l[i] > 0) && decide (l[i] ≤ highBid (l.take i))) = true
        · refine ev_done (h2 hc) ?_
          rcases hc with hc | hc <;> simp [hc]
        · have hc1 : callsEnd p (l.take i) = false := by cases hh : callsEnd p (l.take i) <;> simp_all
          have hc2 : (decide (l[i] > 0) && decide (l[i] ≤ highBid (l.take i))) = false := by cases hh : (decide (l[i] > 0) && decide (l[i] ≤ highBid (l.take i))) <;> simp_all
          refine h1 hc1 hc2 _ (ev_done (ih () trivial) ?_)
          rw [hc1, hc2, take_at l i hi]; simp
      rw [Int.toNat_natCast] at ht ⊢
      refine fin _ (fun hc1 hc2 r hr => ?_) (fun hc => ?_)
      · refine ev_ite (fun h3 => ?_) (fun h3 => ?_)
        · refine ev_pos (by omega) (Ev.bind (spec_HighBid_ev _ ht) (ev_neg ?_ (Ev.bind (spec_CallsEnd_ev p _ ht hp) (ev_neg (by simp [hc1]) hr))))
          intro h4
          rw [show decide (l[i] > 0) = true from decide_eq_true h3, show decide (l[i] ≤ highBid (l.take i)) = true from decide_eq_true h4] at hc2
          cases hc2
        · exact ev_pos (by omega) (Ev.bind (spec_CallsEnd_ev p _ ht hp) (ev_neg (by simp [hc1]) hr))
      · refine ev_ite (fun h3 => ?_) (fun h3 => ?_)
        · refine ev_pos (by omega) (Ev.bind (spec_HighBid_ev _ ht) (ev_ite (fun _ => Ev.now _) (fun h4 => Ev.bind (spec_CallsEnd_ev p _ ht hp) (ev_pos ?_ (Ev.now _)))))
          rcases hc with hc | hc
          · exact hc
          · simp only [Bool.and_eq_true, decide_eq_true_eq] at hc
            exact absurd hc.2 h4
        · refine ev_pos (by omega) (Ev.bind (spec_CallsEnd_ev p _ ht hp) (ev_pos ?_ (Ev.now _)))
          rcases hc with hc | hc
          · exact hc
          · simp only [Bool.and_eq_true, decide_eq_true_eq] at hc
            exact absurd hc.1 h3
    · refine ev_ret ?_
      rw [Bool.not_eq_true] at h
      rw [List.all_cons, h]; simp
  · simp [isCalls]

theorem spec_LegalCalls_up : ∀ (d : Nat) (s : List Int) (x : Int), (36 - x).toNat = d → 0 ≤ x → s.length + d ≤ 1000 → Ev (fun k => spec_LegalCalls.l0 k s x) (s ++ upF x) := by
  intro d
  induction d with
  | zero =>
    intro s x hd hx hs
    refine ev_unfold (fun k => rfl) ?_
    simp only [spec_LegalCalls.l0]
    refine ev_neg (by omega) (ev_ret ?_)
    rw [upF_end x (by omega), List.append_nil]
  | succ d ih =>
    intro s x hd hx hs
    refine ev_unfold (fun k => rfl) ?_
    simp only [spec_LegalCalls.l0]
    rw [w64 (x + 1) (by omega)]
    refine ev_pos (by omega) (ev_pos (by omega) (ev_done (ih _ _ (by omega) (by omega) (by simp; omega)) ?_))
    rw [upF_step x (by omega)]; simp
theorem spec_LegalCalls_ev (p : Int) (l : List Int) (hl : l.length ≤ 1048576000) (hp : -9223372036854775808 ≤ p ∧ p ≤ 9223372036854775807) : Ev (fun k => spec_LegalCalls.f k p l) (legalCalls p l) := by
  have j0 : ∀ b, (b = false → highBid l ≤ 35) → Ev (fun k => spec_LegalCalls.j0 k l [] b) (if b = true then [] else 0 :: upF (highBid l + 1)) := by
    intro b hb
    have h0 := highBid_nonneg l
    refine ev_unfold (fun k => rfl) ?_
    simp only [spec_LegalCalls.j0]
    refine ev_ite (fun h => ?_) (fun h => ?_)
    · rw [if_pos h]; exact Ev.now _
    · rw [if_neg h]
      have h35 := hb (by simpa using h)
      refine ev_pos (by simp) (Ev.bind (spec_HighBid_ev l hl) ?_)
      show Ev (fun k => spec_LegalCalls.l0 k ([] ++ [0]) (wrap64 (highBid l + 1))) _
      rw [w64 (highBid l + 1) (by omega)]
      exact ev_done (spec_LegalCalls_up _ _ _ rfl (by omega) (by simp; omega)) (by simp)
  simp only [spec_LegalCalls.f, Option.bind_some]
  unfold legalCalls
  refine Ev.bind (spec_IsCalls_ev p l hl hp) (ev_ite (fun h2 => ?_) (fun h2 => ev_done (j0 _ (fun h => by cases h)) ?_))
  · rw [if_pos h2]
    exact Ev.bind (spec_CallsEnd_ev p l hl hp) (j0 _ (fun _ => highBid_le h2))
  · rw [if_neg h2]; simp

theorem laws_toIntS_ev (l : List Int) (hl : l.length ≤ 1048576000) : Ev (fun k => laws_toIntS.f k l) l := by
  simp only [laws_toIntS.f]
  refine ev_pos (by omega) (ev_pos (by omega) ?_)
  refine ev_loop (fun k (s : List Int) i => laws_toIntS.l0 k l s i) l (fun _ _ => l) (fun s i => s.length = l.length ∧ s.take i = l.take i) ?_ ?_ _ 0 (by omega) ⟨by simp, by simp⟩
  · rintro s ⟨h1, h2⟩
    refine ev_unfold (fun k => rfl) ?_
    simp only [laws_toIntS.l0]
    refine ev_neg (by omega) (ev_ret ?_)
    rw [List.take_of_length_le (by omega), List.take_of_length_le (by omega)] at h2
    exact h2
  · rintro s i hi ⟨h1, h2⟩ ih
    refine ev_unfold (fun k => rfl) ?_
    simp only [laws_toIntS.l0]
    refine ev_pos (by omega) (ev_pos (by omega) (ev_pos (by omega) ?_))
    rw [w64next i (by omega), rd_at l i hi, Int.toNat_natCast]
    refine ih _ ⟨by simpa using h1, ?_⟩
    apply List.ext_getElem
    · simp; omega
    · intro j hj1 hj2
      simp at hj1 hj2
      simp only [List.getElem_take, List.getElem_set]
      by_cases hij : i = j
      · subst hij; simp
      · rw [if_neg hij]
        have h3 : (s.take i)[j]'(by simp; omega) = (l.take i)[j]'(by simp; omega) := by simp only [h2]
        simpa using h3

theorem impl_InRange_eq (n a b : Int) : impl_InRange.f n a b = some (inR n a b) := by
  unfold impl_InRange.f inR
  by_cases h : a ≤ n
  · rw [if_pos (by omega)]; simp [h]
  · rw [if_neg (by omega)]; simp [h]

theorem impl_CallsEnd_ev (p : Int) (l : List Int) (hl : l.length ≤ 1048576000) (hp : -9223372036854775808 ≤ p ∧ p ≤ 9223372036854775807) : Ev (fun k => impl_CallsEnd.f k p l) (callsEnd p l) := by
  have fin : ∀ n : Nat, n ≤ l.length → Ev (fun k => impl_CallsEnd.j1 k p l (n : Int)) (callsFin p l n) := by
    intro n hn
    refine ev_unfold (fun k => rfl) ?_
    simp only [impl_CallsEnd.j1]
    unfold callsFin
    refine ev_ite (fun h => ev_ret ?_) (fun h => ?_)
    · simp; omega
    · rw [w64 (p - 1) (by omega)]
      refine ev_ite (fun h2 => ev_ret ?_) (fun h2 => ev_ret ?_)
      · rw [if_pos (by omega)]; simp; omega
      · rw [if_neg (by omega)]; simp; omega
  have hrl : l.reverse.length = l.length := by simp
  have h := ev_loop (fun k (_ : Unit) i => impl_CallsEnd.l0 k p l i ((l.length : Int) - 1 - i)) l.reverse (fun _ r => callsFin p l (l.length - r.length + passF r)) (fun _ _ => True) ?_ ?_ () 0 (by omega) trivial
  · simp only [impl_CallsEnd.f]
    rw [w64 ((l.length : Int) - 1) (by omega)]
    refine ev_done (Ev.congr (fun k => ?_) h) ?_
    · simp
    · simp [callsEnd]
  · rintro _ _
    refine ev_unfold (fun k => rfl) ?_
    simp only [impl_CallsEnd.l0, hrl]
    refine ev_neg (by omega) ?_
    refine ev_done (fin _ (by omega)) ?_
    simp [passF]
  · rintro _ i hi _ ih
    refine ev_unfold (fun k => rfl) ?_
    simp only [impl_CallsEnd.l0]
    rw [rd_rev l i hi, w64next i (by omega), w64 ((l.length : Int) - 1 - (i : Int) - 1) (by omega)]
    refine ev_pos (by omega) (ev_pos (by omega) (ev_pos (by omega) ?_))
    refine ev_ite (fun h => ?_) (fun h => ?_)
    · refine ev_done (Ev.congr (fun k => ?_) (ih () trivial)) ?_
      · congr 1; omega
      · congr 1
        unfold passF
        rw [if_pos h]
        simp only [List.length_drop, List.length_cons, hrl]
        cases hh : l.reverse.drop (i + 1) <;> simp [passF] <;> omega
    · refine ev_done (fin i (by omega)) ?_
      congr 1
      unfold passF
      rw [if_neg h]
      simp only [List.length_drop, List.length_cons, hrl]
      omega

theorem impl_HighBid_ev (l : List Int) (hl : l.length ≤ 1048576000) : Ev (fun k => impl_HighBid.f k l) (l.foldl max 0) := by
  simp only [impl_HighBid.f]
  refine ev_loop (fun k (s : Int) i => impl_HighBid.l0 k s l (l.length : Int) i) l (fun s r => r.foldl max s) (fun _ _ => True) ?_ ?_ 0 0 (by omega) trivial
  · rintro s _
    refine ev_unfold (fun k => rfl) ?_
    simp only [impl_HighBid.l0]
    exact ev_neg (by omega) (ev_ret rfl)
  · rintro s i hi _ ih
    refine ev_unfold (fun k => rfl) ?_
    simp only [impl_HighBid.l0]
    refine ev_pos (by omega) (ev_pos (by omega) (ev_pos (by omega) ?_))
    rw [w64next i (by omega), rd_at l i hi, mx_max]
    exact ih _ trivial

theorem impl_allIn_ev (l : List Int) (a b : Int) (hl : l.length ≤ 1048576000) : Ev (fun k => impl_allIn.f k l a b) (l.all fun x => inR x a b) := by
  simp only [impl_allIn.f]
  refine ev_loop (fun k (_ : Unit) i => impl_allIn.l0 k a b l (l.length : Int) i) l (fun _ r => r.all fun x => inR x a b) (fun _ _ => True) ?_ ?_ () 0 (by omega) trivial
  · rintro s _
    refine ev_unfold (fun k => rfl) ?_
    simp only [impl_allIn.l0]
    exact ev_neg (by omega) (ev_ret rfl)
  · rintro s i hi _ ih
    refine ev_unfold (fun k => rfl) ?_
    simp only [impl_allIn.l0]
    refine ev_pos (by omega) (ev_pos (by omega) (ev_pos (by omega) (ev_eq (impl_InRange_eq _ _ _) ?_)))
    rw [w64next i (by omega), rd_at l i hi, List.all_cons]
    refine ev_ite (fun h => ?_) (fun h => ?_)
    · rw [h, Bool.true_and]; exact ih () trivial
    · rw [Bool.not_eq_true] at h
      rw [h, Bool.false_and]; exact Ev.now _

theorem impl_IsCalls_ev (p : Int) (l : List Int) (hl : l.length ≤ 1048576000) (hp : -9223372036854775808 ≤ p ∧ p ≤ 9223372036854775807) : Ev (fun k => impl_IsCalls.f k p l) (isCalls p l) := by
  have l0 : Ev (fun k => impl_IsCalls.l0 k p l l (l.length : Int) 0) (callsF p [] l) := by
    refine ev_loopN (fun k (_ : Unit) i => impl_IsCalls.l0 k p l l (l.length : Int) i) l.length (fun _ i => callsF p (l.take i) (l.drop i)) (fun _ _ => True) ?_ ?_ () 0 (by omega) trivial
    · rintro s _
      refine ev_unfold (fun k => rfl) ?_
      simp only [impl_IsCalls.l0]
      refine ev_neg (by omega) (ev_ret ?_)
      rw [drop_end]; simp [callsF]
    · rintro s i hi _ ih
      have ht : (l.take (i : Int).toNat).length ≤ 1048576000 := by simp; omega
      refine ev_unfold (fun k => rfl) ?_
      simp only [impl_IsCalls.l0]
      refine ev_pos (by omega) (ev_pos (by omega) (ev_pos (by omega) ?_))
      rw [w64next i (by omega), rd_at l i hi, drop_at l i hi]
      rw [Int.toNat_natCast] at ht ⊢
      unfold callsF
      refine ev_ite (fun h3 => ?_) (fun h3 => ?_)
      · refine ev_pos (by omega) (Ev.bind (impl_HighBid_ev _ ht) (ev_ite (fun h4 => ev_ret ?_) (fun h4 => Ev.bind (impl_CallsEnd_ev p _ ht hp) (ev_ite (fun h5 => ev_ret ?_) (fun h5 => ev_done (ih () trivial) ?_)))))
        · rw [show decide (l[i] > 0) = true from decide_eq_true h3, show decide (l[i] ≤ highBid (l.take i)) = true from decide_eq_true h4]; simp
        · rw [h5]; simp
        · rw [Bool.not_eq_true] at h5
          rw [h5, take_at l i hi, show decide (l[i] ≤ highBid (l.take i)) = false from decide_eq_false h4]; simp
      · refine ev_pos (by omega) (Ev.bind (impl_CallsEnd_ev p _ ht hp) (ev_ite (fun h5 => ev_ret ?_) (fun h5 => ev_done (ih () trivial) ?_)))
        · rw [h5]; simp
        · rw [Bool.not_eq_true] at h5
          rw [h5, take_at l i hi, show decide (l[i] > 0) = false from decide_eq_false h3]; simp
  have j0 : ∀ b, Ev (fun k => impl_IsCalls.j0 k p l b) (!b && callsF p [] l) := by
    intro b
    refine ev_unfold (fun k => rfl) ?_
    simp only [impl_IsCalls.j0]
    refine ev_ite (fun h => ?_) (fun h => ?_)
    · rw [h]; exact Ev.now _
    · rw [Bool.not_eq_true] at h; rw [h]; exact ev_done l0 (by simp)
  simp only [impl_IsCalls.f, impl_InRange_eq, Option.bind_some]
  unfold isCalls
  refine ev_ite (fun h => ?_) (fun h => ?_)
  · refine Ev.bind (impl_allIn_ev l _ _ hl) (ev_done (j0 _) ?_)
    simp [h]
  · refine ev_done (j0 _) ?_
    simp [h]

theorem impl_LegalCalls_up : ∀ (d : Nat) (s : List Int) (x : Int), (36 - x).toNat = d → 0 ≤ x → s.length + d ≤ 1000 → Ev (fun k => impl_LegalCalls.l0 k s x) (s ++ upF x) := by
  intro d
  induction d with
  | zero =>
    intro s x hd hx hs
    refine ev_unfold (fun k => rfl) ?_
    simp only [impl_LegalCalls.l0]
    refine ev_neg (by omega) (ev_ret ?_)
    rw [upF_end x (by omega), List.append_nil]
  | succ d ih =>
    intro s x hd hx hs
    refine ev_unfold (fun k => rfl) ?_
    simp only [impl_LegalCalls.l0]
    rw [w64 (x + 1) (by omega)]
    refine ev_pos (by omega) (ev_pos (by omega) (ev_done (ih _ _ (by omega) (by omega) (by simp; omega)) ?_))
    rw [upF_step x (by omega)]; simp
theorem impl_LegalCalls_ev (p : Int) (l : List Int) (hl : l.length ≤ 1048576000) (hp : -9223372036854775808 ≤ p ∧ p ≤ 9223372036854775807) : Ev (fun k => impl_LegalCalls.f k p l) (legalCalls p l) := by
  have j0 : ∀ b, (b = false → highBid l ≤ 35) → Ev (fun k => impl_LegalCalls.j0 k l b) (if b = true then [] else 0 :: upF (highBid l + 1)) := by
    intro b hb
    have h0 := highBid_nonneg l
    refine ev_unfold (fun k => rfl) ?_
    simp only [impl_LegalCalls.j0]
    refine ev_ite (fun h => ?_) (fun h => ?_)
    · rw [if_pos h]; exact Ev.now _
    · rw [if_neg h]
      have h35 := hb (by simpa using h)
      refine Ev.bind (impl_HighBid_ev l hl) ?_
      show Ev (fun k => impl_LegalCalls.l0 k [0] (wrap64 (highBid l + 1))) _
      rw [w64 (highBid l + 1) (by omega)]
      exact ev_done (impl_LegalCalls_up _ _ _ rfl (by omega) (by simp; omega)) (by simp)
  simp only [impl_LegalCalls.f]
  unfold legalCalls
  refine Ev.bind (impl_IsCalls_ev p l hl hp) (ev_ite (fun h2 => ?_) (fun h2 => ev_done (j0 _ (fun h => by cases h)) ?_))
  · rw [if_pos h2]
    exact Ev.bind (impl_CallsEnd_ev p l hl hp) (j0 _ (fun _ => highBid_le h2))
  · rw [if_neg h2]; simp

theorem laws_eqIntS_ev (a b : List Int) (ha : a.length ≤ 1048576000) : Ev (fun k => laws_eqIntS.f k a b) (decide (a = b)) := by
  simp only [laws_eqIntS.f]
  refine ev_ite (fun hlen => ?_) (fun hne => ev_ret ?_)
  · have hlen' : a.length = b.length := by omega
    have h := ev_loop (fun k (_ : Unit) i => laws_eqIntS.l0 k a b i) a (fun _ r => decide (r = b.drop (a.length - r.length))) (fun _ _ => True) ?_ ?_ () 0 (by omega) trivial
    · refine ev_done h ?_
      simp
    · rintro _ _
      refine ev_unfold (fun k => rfl) ?_
      simp only [laws_eqIntS.l0]
      refine ev_neg (by omega) (ev_ret ?_)
      rw [List.length_nil, Nat.sub_zero, hlen', drop_end]
      simp
    · rintro _ i hi _ ih
      refine ev_unfold (fun k => rfl) ?_
      simp only [laws_eqIntS.l0]
      refine ev_pos (by omega) (ev_pos (by omega) (ev_pos (by omega) ?_))
      rw [w64next i (by omega), rd_at a i hi, rd_at b i (by omega)]
      have e1 : a.length - (a[i] :: a.drop (i + 1)).length = i := by simp; omega
      have e2 : a.length - (a.drop (i + 1)).length = i + 1 := by simp; omega
      refine ev_ite (fun heq => ?_) (fun hne => ev_ret ?_)
      · refine ev_done (ih () trivial) ?_
        rw [e1, e2, drop_at b i (by omega), heq]
        exact decide_eq_decide.2 ⟨fun h => by rw [h], fun h => (List.cons.inj h).2⟩
      · rw [e1, drop_at b i (by omega)]
        exact (decide_eq_false (fun h => hne (List.cons.inj h).1)).symm
  · have : a ≠ b := by rintro rfl; exact hne rfl
    simp [this]

theorem laws_markIntS_ev (l : List Int) (a : Int) (hl : l.length ≤ 1073741824) (ha : 0 ≤ a ∧ a ≤ 1073741824) : Ev (fun k => laws_markIntS.f k l a) (a + (l.length : Int), marks a l.length) := by
  simp only [laws_markIntS.f]
  refine ev_loop (fun k (s : List Int × Int) i => laws_markIntS.l0 k s.1 s.2 i) l (fun _ _ => (a + (l.length : Int), marks a l.length)) (fun s i => s.1.length = l.length ∧ s.2 = a + i ∧ s.1.take i = marks a i) ?_ ?_ (l, a) 0 (by omega) ⟨rfl, by simp, by simp [marks]⟩
  · rintro ⟨s, n⟩ ⟨h1, h2, h3⟩
    simp only at h1 h2 h3
    refine ev_unfold (fun k => rfl) ?_
    simp only [laws_markIntS.l0]
    refine ev_neg (by omega) (ev_ret ?_)
    rw [List.take_of_length_le (by omega)] at h3
    rw [h2, h3]
  · rintro ⟨s, n⟩ i hi ⟨h1, h2, h3⟩ ih
    simp only at h1 h2 h3
    refine ev_unfold (fun k => rfl) ?_
    simp only [laws_markIntS.l0]
    refine ev_pos (by omega) (ev_pos (by omega) ?_)
    rw [w64next i (by omega), Int.toNat_natCast, w64 (n + 1) (by omega)]
    refine ih (s.set i n, n + 1) ⟨by simpa using h1, by simp only; omega, ?_⟩
    simp only [h2]
    exact marks_step a s i (by omega) h3

theorem laws_heldIntS_ev (n : Nat) (a : Int) (hn : n ≤ 1073741824) (ha : 0 ≤ a ∧ a ≤ 1073741824) : Ev (fun k => laws_heldIntS.f k (marks a n) a) (a + (n : Int)) := by
  have hl := marks_length a n
  simp only [laws_heldIntS.f]
  refine ev_loop (fun k (s : Int) i => laws_heldIntS.l0 k (marks a n) s i) (marks a n) (fun _ _ => a + (n : Int)) (fun s i => s = a + i) ?_ ?_ a 0 (by omega) (by simp)
  · rintro s h
    refine ev_unfold (fun k => rfl) ?_
    simp only [laws_heldIntS.l0]
    refine ev_neg (by omega) (ev_ret ?_)
    rw [h, hl]
  · rintro s i hi h ih
    refine ev_unfold (fun k => rfl) ?_
    simp only [laws_heldIntS.l0]
    refine ev_pos (by omega) (ev_pos (by omega) ?_)
    rw [w64next i (by omega), rd_at _ i hi, marks_at, w64 (s + 1) (by omega)]
    refine ev_pos h.symm (ih _ (by omega))

theorem FnExactLegalCalls : laws_FnExactLegalCalls.Pure := by
  intro p l hp _ _ _
  refine Ev.rounds ?_
  simp only [laws_FnExactLegalCalls.f]
  refine ev_ite (fun _ => Ev.now _) (fun h => ?_)
  have hl : l.length ≤ 1048576000 := by omega
  have hg := legalCalls_length p l
  have eqs := laws_eqIntS_ev (legalCalls p l) (legalCalls p l) (by omega)
  have es := spec_LegalCalls_ev p l (by omega) (wf64 hp)
  have ei := impl_LegalCalls_ev p l (by omega) (wf64 hp)
  have j0 : Ev (fun k => laws_FnExactLegalCalls.j0 k p l (legalCalls p l) (legalCalls p l) false) true := by
    refine ev_unfold (fun k => rfl) ?_
    simp only [laws_FnExactLegalCalls.j0]
    refine ev_neg (by simp) (Ev.bind (laws_markIntS_ev _ 1 (by omega) (by omega)) (Ev.bind (laws_heldIntS_ev _ 1 (by omega) (by omega)) (ev_neg (by omega) (ev_pos rfl ?_))))
    refine Ev.bind (laws_toIntS_ev l hl) (Ev.bind ei (Ev.bind eqs (ev_pos (by simp) ?_)))
    exact Ev.bind (laws_heldIntS_ev _ 1 (by omega) (by omega)) (ev_neg (by omega) (ev_pos rfl (Ev.now _)))
  refine Ev.bind (laws_toIntS_ev l hl) (Ev.bind es (Ev.bind (laws_toIntS_ev l hl) (Ev.bind ei (Ev.bind eqs (ev_pos (by simp) ?_)))))
  refine Ev.bind (laws_toIntS_ev l hl) (Ev.bind (laws_eqIntS_ev l l (by omega)) (ev_pos (by simp) ?_))
  refine Ev.bind (laws_markIntS_ev l 1 (by omega) (by omega)) (ev_neg (by simp only; omega) (Ev.bind eqs ?_))
  refine ev_done (Ev.congr (fun k => ?_) j0) rfl
  simp

end Go.Proofs.Ytcegnlconafikaa.Pure
