/- In the given program FnExactIsOver answers true for every input, by what its functions compute; no condition. -/
import Derived.Test.YtecjbogconeilaaQFnExactIsOverx7
import Derived.Test.YtecjbogconeilaaLib
import Derived.Test.YtecjbogconeilaaCards
import Derived.Test.YtecjbogconeilaaCards2
import Derived.Test.YtecjbogconeilaaCalls
import Derived.Test.YtecjbogconeilaaHands
import Derived.Test.YtecjbogconeilaaSheets
import Derived.Test.YtecjbogconeilaaMarks
import Derived.Test.YtecjbogconeilaaPlay
namespace Go.Proofs.Ytecjbogconeilaa.Pure
open Go.RowKit Go.Proofs.Ytecjbogconeilaa.QFnExactIsOver Go.Proofs.YtecjbogconeilaaW.PrintWords Go.Proofs.YtecjbogconeilaaW.PrintLast Go.Proofs.YtecjbogconeilaaW.PrintMore Go.Proofs.Ytecjbogconeilaa.Lib
set_option linter.unusedVariables false
set_option linter.unusedSimpArgs false

theorem rdss_at (l : List (List Int)) (i : Nat) (h : i < l.length) : rd_L1 l (i : Int) = l[i] := by
  unfold rd_L1
  rw [Int.toNat_natCast, List.getD_eq_getElem?_getD, List.getElem?_eq_getElem h]
  rfl

theorem laws_szIntS_eq (l : List Int) (a : Int) (ha : -1 ≤ a ∧ a ≤ 1048576) (hl : l.length ≤ maxLen) : laws_szIntS.f l a = some (bLeft a l.length) := by
  simp only [maxLen] at hl
  unfold laws_szIntS.f bLeft
  rw [w64 _ (by omega)]
  split <;> rfl

theorem laws_szIntSS_ev (l : List (List Int)) (a : Int) (ha : 0 ≤ a ∧ a ≤ 1048576) (hl : l.length ≤ maxLen) (hr : ∀ r ∈ l, r.length ≤ maxLen) : Ev (fun k => laws_szIntSS.f k l a) (bLeft a (l.length + totalLen l)) := by
  simp only [maxLen] at hl
  simp only [laws_szIntSS.f]
  rw [w64 (a - (l.length : Int)) (by omega)]
  refine ev_ite (fun h => ev_ret ?_) (fun h => ?_)
  · exact (bLeft_no (by unfold bLeft; rw [if_pos h]; omega)).symm
  · have h0 : ¬ bLeft a l.length < 0 := by unfold bLeft; rw [if_neg h]; exact h
    have e0 := (bLeft_some h0).2
    rw [← e0]
    refine ev_done (ev_loop (fun k (s : Int) i => laws_szIntSS.l0 k l s i) l (fun s r => bLeft s (totalLen r)) (fun s i => 0 ≤ s ∧ s ≤ 1048576 ∧ l.length ≤ 1048576) ?_ ?_ (bLeft a l.length) 0 (by omega) ⟨by omega, by omega, by omega⟩) ?_
    · rintro s ⟨h1, _, _⟩
      refine ev_unfold (fun k => rfl) ?_
      simp only [laws_szIntSS.l0]
      refine ev_neg (by omega) (ev_ret ?_)
      unfold bLeft totalLen
      simp; omega
    · rintro s i hi ⟨h1, h2, h3⟩ ih
      refine ev_unfold (fun k => rfl) ?_
      simp only [laws_szIntSS.l0]
      rw [w64next i (by omega), rdss_at l i hi, totalLen_cons]
      refine ev_pos (by omega) (ev_pos (by omega) (ev_eq (laws_szIntS_eq _ _ (by omega) (hr _ (List.getElem_mem hi))) ?_))
      refine ev_ite (fun h => ev_ret (bLeft_no h).symm) (fun h => ?_)
      have h4 := bLeft_some h
      refine ev_done (ih (bLeft s l[i].length) ⟨by omega, by omega, h3⟩) ?_
      exact bLeft_then h
    · rw [List.drop_zero]; exact bLeft_then h0

theorem laws_szDeal_ev (h : List (List Int)) (a1 a2 : Int) (t w p : List Int) (a6 : Int) (hl : h.length ≤ maxLen) (hr : ∀ r ∈ h, r.length ≤ maxLen) (ht : t.length ≤ maxLen) (hw : w.length ≤ maxLen) (hp : p.length ≤ maxLen) :
    Ev (fun k => laws_szDeal.f k h a1 a2 t w p a6 1048576) (bLeft 1048576 (h.length + totalLen h + t.length + w.length + p.length)) := by
  simp only [laws_szDeal.f]
  refine Ev.bind (laws_szIntSS_ev h 1048576 (by omega) hl hr) (ev_ite (fun hc => ev_ret ?_) (fun hc => ?_))
  · rw [Nat.add_assoc, Nat.add_assoc]; exact (bLeft_no hc).symm
  have e1 := bLeft_some hc
  refine ev_eq (laws_szIntS_eq t _ (by omega) ht) ?_
  rw [bLeft_then hc]
  refine ev_ite (fun hc => ev_ret ?_) (fun hc => ?_)
  · rw [Nat.add_assoc]; exact (bLeft_no hc).symm
  have e2 := bLeft_some hc
  refine ev_eq (laws_szIntS_eq w _ (by omega) hw) ?_
  rw [bLeft_then hc]
  refine ev_ite (fun hc => ev_ret (bLeft_no hc).symm) (fun hc => ?_)
  have e3 := bLeft_some hc
  refine ev_eq (laws_szIntS_eq p _ (by omega) hp) ?_
  rw [bLeft_then hc]
  refine ev_ite (fun hc => ev_ret ?_) (fun hc => Ev.now _)
  have := bLeft_no (m := 0) hc
  rw [Nat.add_zero] at this; exact this.symm

theorem laws_toIntS_ev (l : List Int) (hl : l.length ≤ 1048576000) : Ev (fun k => laws_toIntS.f k l) l := by
  simp only [laws_toIntS.f]
  refine ev_pos (by omega) (ev_pos (by omega) ?_)
  refine ev_loop (fun k (s : List Int) i => laws_toIntS.l0 k l s i) l (fun _ _ => l) (fun s i => s.length = l.length ∧ s.take i = l.take i) ?_ ?_ _ 0 (by omega) ⟨by simp, by simp⟩
  · rintro s ⟨h1, h2⟩
    refine ev_unfold (fun k => rfl) ?_
    simp only [laws_toIntS.l0]
    refine ev_neg (by omega) (ev_ret ?_)
    rw [List.take_of_length_le (by omega), List.take_of_length_le (by omega)] at h2
    exact h2
  · rintro s i hi ⟨h1, h2⟩ ih
    refine ev_unfold (fun k => rfl) ?_
    simp only [laws_toIntS.l0]
    refine ev_pos (by omega) (ev_pos (by omega) (ev_pos (by omega) ?_))
    rw [w64next i (by omega), rd_at l i hi, Int.toNat_natCast]
    refine ih _ ⟨by simpa using h1, ?_⟩
    apply List.ext_getElem
    · simp; omega
    · intro j hj1 hj2
      simp at hj1 hj2
      simp only [List.getElem_take, List.getElem_set]
      by_cases hij : i = j
      · subst hij; simp
      · rw [if_neg hij]
        have h3 : (s.take i)[j]'(by simp; omega) = (l.take i)[j]'(by simp; omega) := by simp only [h2]
        simpa using h3

theorem laws_toIntSS_ev (l : List (List Int)) (hl : l.length ≤ 1048576000) (hr : ∀ r ∈ l, r.length ≤ 1048576000) : Ev (fun k => laws_toIntSS.f k l) l := by
  simp only [laws_toIntSS.f]
  refine ev_pos (by omega) (ev_pos (by omega) ?_)
  refine ev_loopN (fun k (s : List (List Int)) i => laws_toIntSS.l0 k l s i) l.length (fun _ _ => l) (fun s i => s.length = l.length ∧ s.take i = l.take i) ?_ ?_ _ 0 (by omega) ⟨by simp, by simp⟩
  · rintro s ⟨h1, h2⟩
    refine ev_unfold (fun k => rfl) ?_
    simp only [laws_toIntSS.l0]
    refine ev_neg (by omega) (ev_ret ?_)
    rw [List.take_of_length_le (by omega), List.take_of_length_le (by omega)] at h2
    exact h2
  · rintro s i hi ⟨h1, h2⟩ ih
    refine ev_unfold (fun k => rfl) ?_
    simp only [laws_toIntSS.l0]
    rw [w64next i (by omega), rdss_at l i hi, Int.toNat_natCast]
    refine ev_pos (by omega) (ev_pos (by omega) (Ev.bind (laws_toIntS_ev _ (hr _ (List.getElem_mem hi))) (ev_pos (by omega) ?_)))
    refine ih _ ⟨by simpa using h1, ?_⟩
    apply List.ext_getElem
    · simp; omega
    · intro j hj1 hj2
      simp at hj1 hj2
      simp only [List.getElem_take, List.getElem_set]
      by_cases hij : i = j
      · subst hij; simp
      · rw [if_neg hij]
        have h3 : (s.take i)[j]'(by simp; omega) = (l.take i)[j]'(by simp; omega) := by simp only [h2]
        simpa using h3

theorem laws_toDeal_ev (h : List (List Int)) (a1 a2 : Int) (t w p : List Int) (a6 : Int) (hl : h.length ≤ 1048576000) (hr : ∀ r ∈ h, r.length ≤ 1048576000) (ht : t.length ≤ 1048576000) (hw : w.length ≤ 1048576000) (hp : p.length ≤ 1048576000) :
    Ev (fun k => laws_toDeal.f k h a1 a2 t w p a6) (h, a1, a2, t, w, p, a6) := by
  simp only [laws_toDeal.f]
  exact Ev.bind (laws_toIntSS_ev h hl hr) (Ev.bind (laws_toIntS_ev t ht) (Ev.bind (laws_toIntS_ev w hw) (Ev.bind (laws_toIntS_ev p hp) (Ev.now _))))

theorem laws_eqIntS_ev (a b : List Int) (ha : a.length ≤ 1048576000) : Ev (fun k => laws_eqIntS.f k a b) (decide (a = b)) := by
  simp only [laws_eqIntS.f]
  refine ev_ite (fun hlen => ?_) (fun hne => ev_ret ?_)
  · have hlen' : a.length = b.length := by omega
    have h := ev_loop (fun k (_ : Unit) i => laws_eqIntS.l0 k a b i) a (fun _ r => decide (r = b.drop (a.length - r.length))) (fun _ _ => True) ?_ ?_ () 0 (by omega) trivial
    · refine ev_done h ?_
      simp
    · rintro _ _
      refine ev_unfold (fun k => rfl) ?_
      simp only [laws_eqIntS.l0]
      refine ev_neg (by omega) (ev_ret ?_)
      rw [List.length_nil, Nat.sub_zero, hlen', drop_end]
      simp
    · rintro _ i hi _ ih
      refine ev_unfold (fun k => rfl) ?_
      simp only [laws_eqIntS.l0]
      refine ev_pos (by omega) (ev_pos (by omega) (ev_pos (by omega) ?_))
      rw [w64next i (by omega), rd_at a i hi, rd_at b i (by omega)]
      have e1 : a.length - (a[i] :: a.drop (i + 1)).length = i := by simp; omega
      have e2 : a.length - (a.drop (i + 1)).length = i + 1 := by simp; omega
      refine ev_ite (fun heq => ?_) (fun hne => ev_ret ?_)
      · refine ev_done (ih () trivial) ?_
        rw [e1, e2, drop_at b i (by omega), heq]
        exact decide_eq_decide.2 ⟨fun h => by rw [h], fun h => (List.cons.inj h).2⟩
      · rw [e1, drop_at b i (by omega)]
        exact (decide_eq_false (fun h => hne (List.cons.inj h).1)).symm
  · have : a ≠ b := by rintro rfl; exact hne rfl
    simp [this]

theorem laws_eqIntSS_ev (a b : List (List Int)) (ha : a.length ≤ 1048576000) (hr : ∀ r ∈ a, r.length ≤ 1048576000) : Ev (fun k => laws_eqIntSS.f k a b) (decide (a = b)) := by
  simp only [laws_eqIntSS.f]
  refine ev_ite (fun hlen => ?_) (fun hne => ev_ret ?_)
  · have hlen' : a.length = b.length := by omega
    refine ev_done (ev_loopN (fun k (_ : Unit) i => laws_eqIntSS.l0 k a b i) a.length (fun _ i => decide (a.drop i = b.drop i)) (fun _ _ => True) ?_ ?_ () 0 (by omega) trivial) (by simp)
    · rintro _ _
      refine ev_unfold (fun k => rfl) ?_
      simp only [laws_eqIntSS.l0]
      refine ev_neg (by omega) (ev_ret ?_)
      rw [drop_end, hlen', drop_end]; simp
    · rintro _ i hi _ ih
      refine ev_unfold (fun k => rfl) ?_
      simp only [laws_eqIntSS.l0]
      rw [w64next i (by omega), rdss_at a i hi, rdss_at b i (by omega), drop_at a i hi, drop_at b i (by omega)]
      refine ev_pos (by omega) (ev_pos (by omega) (ev_pos (by omega) (Ev.bind (laws_eqIntS_ev _ _ (hr _ (List.getElem_mem hi))) ?_)))
      refine ev_ite (fun heq => ?_) (fun hne => ev_ret ?_)
      · refine ev_done (ih () trivial) ?_
        have heq' := of_decide_eq_true heq
        exact decide_eq_decide.2 ⟨fun h => by rw [h, heq'], fun h => (List.cons.inj h).2⟩
      · exact (decide_eq_false (fun h => hne (decide_eq_true (List.cons.inj h).1))).symm
  · have : a ≠ b := by rintro rfl; exact hne rfl
    simp [this]

theorem laws_eqDeal_ev (h : List (List Int)) (a1 a2 : Int) (t w p : List Int) (a6 : Int) (hl : h.length ≤ 1048576000) (hr : ∀ r ∈ h, r.length ≤ 1048576000) (ht : t.length ≤ 1048576000) (hw : w.length ≤ 1048576000) (hp : p.length ≤ 1048576000) :
    Ev (fun k => laws_eqDeal.f k h a1 a2 t w p a6 h a1 a2 t w p a6) true := by
  simp only [laws_eqDeal.f]
  exact Ev.bind (laws_eqIntSS_ev h h hl hr) (ev_pos (by simp) (ev_pos trivial (ev_pos trivial (Ev.bind (laws_eqIntS_ev t t ht) (ev_pos (by simp) (Ev.bind (laws_eqIntS_ev w w hw) (ev_pos (by simp) (Ev.bind (laws_eqIntS_ev p p hp) (ev_pos (by simp) (ev_pos trivial (Ev.now _)))))))))))

theorem spec_l1In_eq (n a b : Int) : spec_l1In.f n a b = some (inR n a b) := by
  unfold spec_l1In.f inR
  by_cases h : a ≤ n
  · rw [if_pos (by omega)]; simp [h]
  · rw [if_neg (by omega)]; simp [h]

theorem spec_HasCard_ev (l : List Int) (c : Int) (hl : l.length ≤ 1048576000) : Ev (fun k => spec_HasCard.f k l c) (hasCard l c) := by
  simp only [spec_HasCard.f]
  refine ev_done (ev_loop (fun k (_ : Unit) i => spec_HasCard.l0 k l c i) l (fun _ r => hasCard r c) (fun _ _ => True) ?_ ?_ () 0 (by omega) trivial) rfl
  · rintro s _
    refine ev_unfold (fun k => rfl) ?_
    simp only [spec_HasCard.l0]
    exact ev_neg (by omega) (ev_ret (by simp [hasCard]))
  · rintro s i hi _ ih
    refine ev_unfold (fun k => rfl) ?_
    simp only [spec_HasCard.l0]
    rw [w64next i (by omega), rd_at l i hi]
    refine ev_pos (by omega) (ev_pos (by omega) (ev_ite (fun h => ev_ret ?_) (fun h => ev_done (ih () trivial) ?_)))
    · simp [hasCard, h]
    · have h2 : ¬ c = l[i] := fun e => h e.symm
      simp only [hasCard, List.mem_cons]
      exact decide_eq_decide.2 ⟨fun h => .inr h, fun h => h.resolve_left h2⟩

theorem spec_IsCard_eq (c : Int) : spec_IsCard.f c = some (isCard c) := by
  unfold spec_IsCard.f isCard
  rw [spec_l1In_eq]; rfl

theorem spec_IsHand_ev (l : List Int) (hl : l.length ≤ 1048576000) : Ev (fun k => spec_IsHand.f k l) (isHand l) := by
  simp only [spec_IsHand.f]
  refine ev_done (ev_loopN (fun k (_ : Unit) i => spec_IsHand.l0 k l i) l.length (fun _ i => handF (l.take i) (l.drop i)) (fun _ _ => True) ?_ ?_ () 0 (by omega) trivial) (by simp [isHand])
  · rintro s _
    refine ev_unfold (fun k => rfl) ?_
    simp only [spec_IsHand.l0]
    refine ev_neg (by omega) (ev_ret ?_)
    rw [drop_end]; rfl
  · rintro s i hi _ ih
    have ht : (l.take i).length ≤ 1048576000 := by simp; omega
    refine ev_unfold (fun k => rfl) ?_
    simp only [spec_IsHand.l0]
    rw [w64next i (by omega), rd_at l i hi, drop_at l i hi, Int.toNat_natCast]
    unfold handF
    refine ev_pos (by omega) (ev_pos (by omega) (ev_eq (spec_IsCard_eq _) (ev_ite (fun h => ?_) (fun h => ev_ret ?_))))
    · refine ev_pos (by omega) (Ev.bind (spec_HasCard_ev _ _ ht) (ev_ite (fun h2 => ev_ret ?_) (fun h2 => ev_done (ih () trivial) ?_)))
      · rw [h2]; simp
      · rw [Bool.not_eq_true] at h2
        rw [h, h2, take_at l i hi]; simp
    · rw [Bool.not_eq_true] at h
      rw [h]; simp

theorem spec_AllApart_ev (l : List (List Int)) (hl : l.length ≤ 1048576000) (hf : l.flatten.length ≤ 1048576000) : Ev (fun k => spec_AllApart.f k l) (isHand l.flatten) := by
  simp only [spec_AllApart.f]
  refine ev_done (ev_loop (fun k (s : List Int) i => spec_AllApart.l0 k l s i) l (fun s r => isHand (s ++ r.flatten)) (fun s i => s = (l.take i).flatten) ?_ ?_ [] 0 (by omega) rfl) rfl
  · rintro s hs
    refine ev_unfold (fun k => rfl) ?_
    simp only [spec_AllApart.l0]
    rw [List.take_length] at hs
    refine ev_neg (by omega) (Ev.bind (spec_IsHand_ev s (by rw [hs]; exact hf)) (ev_ret (by simp)))
  · rintro s i hi hs ih
    refine ev_unfold (fun k => rfl) ?_
    simp only [spec_AllApart.l0]
    rw [w64next i (by omega), rdss_at l i hi]
    have e : s ++ l[i] = (l.take (i + 1)).flatten := by rw [take_at l i hi, List.flatten_append, ← hs]; simp
    have hle : (s ++ l[i]).length ≤ 1048576000 := by
      rw [e]
      have h1 : l.flatten = (l.take (i + 1)).flatten ++ (l.drop (i + 1)).flatten := by rw [← List.flatten_append, List.take_append_drop]
      rw [h1, List.length_append] at hf
      omega
    rw [List.length_append] at hle
    refine ev_pos (by omega) (ev_pos (by omega) (ev_pos (by omega) (ev_done (ih _ e) ?_)))
    rw [List.flatten_cons, List.append_assoc]

theorem spec_Max_eq (a b : Int) : spec_Max.f a b = some (max a b) := by
  unfold spec_Max.f
  split <;> (congr 1; omega)

theorem spec_Min_eq (a b : Int) : spec_Min.f a b = some (min a b) := by
  unfold spec_Min.f
  split <;> (congr 1; omega)

theorem spec_l12Sum_ev (l : List Int) (hl : l.length ≤ 1048576000) : Ev (fun k => spec_l12Sum.f k l) (capSum 0 l) := by
  simp only [spec_l12Sum.f]
  refine ev_loop (fun k (s : Int) i => spec_l12Sum.l0 k l s i) l (fun s r => capSum s r) (fun _ _ => True) ?_ ?_ 0 0 (by omega) trivial
  · rintro s _
    refine ev_unfold (fun k => rfl) ?_
    simp only [spec_l12Sum.l0]
    exact ev_neg (by omega) (ev_ret rfl)
  · rintro s i hi _ ih
    refine ev_unfold (fun k => rfl) ?_
    simp only [spec_l12Sum.l0]
    rw [w64next i (by omega), rd_at l i hi]
    refine ev_pos (by omega) (ev_pos (by omega) (ev_eq (spec_Min_eq _ _) (ev_eq (spec_Max_eq _ _) ?_)))
    exact ih _ trivial

theorem flat_snoc_length (h : List (List Int)) (t : List Int) : (h ++ [t]).flatten.length = totalLen h + t.length := by
  rw [List.flatten_append, List.length_append, List.length_flatten]; simp [totalLen]
theorem rdss_line (h : List (List Int)) (i : Nat) : rd_L1 h (i : Int) = lineAt h (i : Int) := rfl
theorem spec_IsDeal_ev (h : List (List Int)) (a1 a2 : Int) (t w p : List Int) (a6 : Int) (hl : h.length ≤ 1048576000) (hf : totalLen h + t.length ≤ 1048576000) (hw : w.length ≤ 1048576000) :
    Ev (fun k => spec_IsDeal.f k h a1 a2 t w p a6) (isDeal h a1 a2 t w p a6) := by
  have hj : ∀ (b : Bool), dealHead h.length w.length p.length a1 a2 a6 t.length = b → Ev (fun k => spec_IsDeal.j0 k (h.length : Int) (!b) h a1 a2 t w p a6) (isDeal h a1 a2 t w p a6) := by
    intro b hb
    refine ev_unfold (fun k => rfl) ?_
    simp only [spec_IsDeal.j0]
    unfold isDeal
    rw [hb]
    refine ev_ite (fun hc => ev_ret ?_) (fun hc => ?_)
    · rw [Bool.not_eq_true'] at hc; rw [hc]; rfl
    rw [Bool.not_eq_true, Bool.not_eq_false'] at hc
    subst hc
    have hb2 := hb
    unfold dealHead at hb2
    simp only [Bool.and_eq_true, inR_iff, decide_eq_true_eq, Bool.not_eq_true', decide_eq_false_iff_not] at hb2
    obtain ⟨b1, b2, b3, b4, b5, b6, b7⟩ := hb2
    refine ev_eq rfl (ev_pos (by simp only [List.length_nil]; omega) (ev_eq rfl (ev_eq rfl (ev_pos (by simp only [List.nil_append, List.length_cons, List.length_nil]; omega) ?_))))
    rw [List.nil_append]
    refine Ev.bind (spec_AllApart_ev (h ++ [t]) (by rw [List.length_append]; simp; omega) (by rw [flat_snoc_length]; omega)) (ev_ite (fun hc => ?_) (fun hc => ev_ret ?_))
    rotate_left
    · rw [Bool.not_eq_true] at hc; rw [hc]; rfl
    rw [hc, Bool.true_and, Bool.true_and]
    refine ev_loopN (fun k (_ : Unit) i => spec_IsDeal.l0 k (h.length : Int) i h a1 a2 t w p a6) h.length (fun _ i => allFrom (dealRow12 h a1 a6 t.length (capSum 0 w) w p) h.length i) (fun _ _ => True) ?_ ?_ () 0 (by omega) trivial
    · rintro s _
      refine ev_unfold (fun k => rfl) ?_
      simp only [spec_IsDeal.l0]
      exact ev_neg (by omega) (ev_ret (allFrom_end _ _).symm)
    · rintro s i hi _ ih
      have ih := ih () trivial
      refine ev_unfold (fun k => rfl) ?_
      simp only [spec_IsDeal.l0]
      have hj2 : ∀ b : Bool, (!(decide (rd w i < 0)) && !(decide (rd p i < 0))) = !b → Ev (fun k => spec_IsDeal.j2 k (h.length : Int) (i : Int) b h a1 a2 t w p a6) (allFrom (dealRow12 h a1 a6 t.length (capSum 0 w) w p) h.length i) := by
        intro b hb
        rw [allFrom_step _ hi]
        refine ev_unfold (fun k => rfl) ?_
        simp only [spec_IsDeal.j2]
        unfold dealRow12
        rw [hb]
        refine ev_ite (fun hc => ev_ret (by rw [hc]; rfl)) (fun hc => ?_)
        rw [Bool.not_eq_true] at hc
        rw [hc, w64next i (by omega), rdss_line]
        refine Ev.bind (spec_l12Sum_ev w hw) (ev_neg (by omega) ?_)
        unfold wantAt cardsAt
        refine ev_ite (fun h1 => ?_) (fun h1 => ?_)
        · rw [if_pos h1]
          refine ev_pos (by omega) (ev_pos (by omega) (ev_ite (fun h2 => ev_done ih ?_) (fun h2 => ev_ret ?_)))
          · rw [decide_eq_true h2]; rfl
          · rw [decide_eq_false h2]; rfl
        · rw [if_neg h1]
          refine ev_pos (by omega) (ev_pos (by omega) (ev_ite (fun h2 => ev_done ih ?_) (fun h2 => ev_ret ?_)))
          · rw [decide_eq_true h2]; rfl
          · rw [decide_eq_false h2]; rfl
      refine ev_pos (by omega) (ev_pos (by omega) (ev_pos (by omega) (ev_ite (fun h1 => hj2 true ?_) (fun h1 => ev_pos (by omega) (hj2 (decide (rd p i < 0)) ?_)))))
      · rw [decide_eq_true h1]; rfl
      · rw [decide_eq_false h1]; rfl
  have ht := hj (dealHead h.length w.length p.length a1 a2 a6 t.length) rfl
  simp only [spec_IsDeal.f]
  rw [w64 ((h.length : Int) - 1) (by omega)]
  unfold dealHead at ht
  refine ev_eq (spec_l1In_eq _ _ _) (ev_ite (fun c1 => ?_) (fun c1 => ?_))
  rotate_left
  · rw [Bool.not_eq_true] at c1; rw [c1] at ht; exact ht
  rw [c1, Bool.true_and] at ht
  refine ev_ite (fun c2 => ?_) (fun c2 => ?_)
  rotate_left
  · rw [decide_eq_false c2] at ht; exact ht
  rw [decide_eq_true c2, Bool.true_and] at ht
  refine ev_ite (fun c3 => ?_) (fun c3 => ?_)
  rotate_left
  · rw [decide_eq_false c3] at ht; exact ht
  rw [decide_eq_true c3, Bool.true_and] at ht
  refine ev_eq (spec_l1In_eq _ _ _) (ev_ite (fun c1 => ?_) (fun c1 => ?_))
  rotate_left
  · rw [Bool.not_eq_true] at c1; rw [c1] at ht; exact ht
  rw [c1, Bool.true_and] at ht
  refine ev_eq (spec_l1In_eq _ _ _) (ev_ite (fun c1 => ?_) (fun c1 => ?_))
  rotate_left
  · rw [Bool.not_eq_true] at c1; rw [c1] at ht; exact ht
  rw [c1, Bool.true_and] at ht
  refine ev_eq (spec_l1In_eq _ _ _) (ev_ite (fun c1 => ?_) (fun c1 => ?_))
  rotate_left
  · rw [Bool.not_eq_true] at c1; rw [c1] at ht; exact ht
  rw [c1, Bool.true_and, Bool.not_not] at ht
  exact ht

theorem spec_TotalCards_ev (l : List (List Int)) (hl : l.length ≤ 1048576000) : Ev (fun k => spec_TotalCards.f k l) (cardsW 0 l) := by
  simp only [spec_TotalCards.f]
  refine ev_loop (fun k (s : Int) i => spec_TotalCards.l0 k l s i) l (fun s r => cardsW s r) (fun _ _ => True) ?_ ?_ 0 0 (by omega) trivial
  · rintro s _
    refine ev_unfold (fun k => rfl) ?_
    simp only [spec_TotalCards.l0]
    exact ev_neg (by omega) (ev_ret rfl)
  · rintro s i hi _ ih
    refine ev_unfold (fun k => rfl) ?_
    simp only [spec_TotalCards.l0]
    rw [w64next i (by omega), rdss_at l i hi]
    refine ev_pos (by omega) (ev_pos (by omega) ?_)
    exact ih _ trivial

theorem spec_IsOver_ev (h : List (List Int)) (a1 a2 : Int) (t w p : List Int) (a6 : Int) (hl : h.length ≤ 1048576000) (hf : totalLen h + t.length ≤ 1048576000) (hw : w.length ≤ 1048576000) :
    Ev (fun k => spec_IsOver.f k h a1 a2 t w p a6) (isDeal h a1 a2 t w p a6 && (decide (cardsW 0 h = 0) && ((t.length : Int) == 0))) := by
  simp only [spec_IsOver.f]
  refine Ev.bind (spec_IsDeal_ev h a1 a2 t w p a6 hl hf hw) (ev_ite (fun c => ?_) (fun c => ev_ret ?_))
  · rw [c, Bool.true_and]
    refine Ev.bind (spec_TotalCards_ev h hl) (ev_ite (fun c => ev_ret ?_) (fun c => ev_ret ?_))
    · rw [decide_eq_true c]; rfl
    · rw [decide_eq_false c]; rfl
  · rw [Bool.not_eq_true] at c; rw [c]; rfl

theorem impl_InRange_eq (n a b : Int) : impl_InRange.f n a b = some (inR n a b) := by
  unfold impl_InRange.f inR
  by_cases h : a ≤ n
  · rw [if_pos (by omega)]; simp [h]
  · rw [if_neg (by omega)]; simp [h]

theorem impl_allIn_ev (l : List Int) (a b : Int) (hl : l.length ≤ 1048576000) : Ev (fun k => impl_allIn.f k l a b) (l.all fun x => inR x a b) := by
  simp only [impl_allIn.f]
  refine ev_loop (fun k (_ : Unit) i => impl_allIn.l0 k a b l (l.length : Int) i) l (fun _ r => r.all fun x => inR x a b) (fun _ _ => True) ?_ ?_ () 0 (by omega) trivial
  · rintro s _
    refine ev_unfold (fun k => rfl) ?_
    simp only [impl_allIn.l0]
    exact ev_neg (by omega) (ev_ret rfl)
  · rintro s i hi _ ih
    refine ev_unfold (fun k => rfl) ?_
    simp only [impl_allIn.l0]
    refine ev_pos (by omega) (ev_pos (by omega) (ev_pos (by omega) (ev_eq (impl_InRange_eq _ _ _) ?_)))
    rw [w64next i (by omega), rd_at l i hi, List.all_cons]
    refine ev_ite (fun h => ?_) (fun h => ?_)
    · rw [h, Bool.true_and]; exact ih () trivial
    · rw [Bool.not_eq_true] at h
      rw [h, Bool.false_and]; exact Ev.now _

theorem impl_IsCard_eq (c : Int) : impl_IsCard.f c = some (isCard c) := by
  unfold impl_IsCard.f isCard
  rw [impl_InRange_eq]; rfl

theorem impl_IsHand_ev (l : List Int) (hl : l.length ≤ 1048576000) : Ev (fun k => impl_IsHand.f k l) (isHand l) := by
  simp only [impl_IsHand.f]
  refine ev_done (ev_loopN (fun k (s : List Bool) i => impl_IsHand.l0 k l s i) l.length (fun _ i => handF (l.take i) (l.drop i)) (fun s i => s.length = 52 ∧ ∀ c : Nat, c < 52 → s.getD c false = decide ((c : Int) ∈ l.take i)) ?_ ?_ _ 0 (by omega) ⟨by simp, fun c hc => by rw [List.getD_eq_getElem?_getD, List.getElem?_replicate, if_pos hc]; simp⟩) (by simp [isHand])
  · rintro s _
    refine ev_unfold (fun k => rfl) ?_
    simp only [impl_IsHand.l0]
    refine ev_neg (by omega) (ev_ret ?_)
    rw [drop_end]; rfl
  · rintro s i hi ⟨h52, hs⟩ ih
    refine ev_unfold (fun k => rfl) ?_
    simp only [impl_IsHand.l0]
    rw [w64next i (by omega), rd_at l i hi, drop_at l i hi]
    unfold handF
    refine ev_pos (by omega) (ev_pos (by omega) (ev_eq (impl_IsCard_eq _) (ev_ite (fun h => ?_) (fun h => ev_ret ?_))))
    · have hc := (isCard_iff _).1 h
      have he := hs l[i].toNat (by omega)
      rw [show ((l[i].toNat : Nat) : Int) = l[i] by omega] at he
      refine ev_pos (by omega) (ev_pos (by omega) (ev_ite (fun h2 => ev_ret ?_) (fun h2 => ev_done (ih _ ⟨by simpa using h52, fun c hc2 => ?_⟩) ?_)))
      · rw [h2] at he
        unfold hasCard
        rw [← he]; simp
      · rw [take_at l i hi, List.getD_eq_getElem?_getD, List.getElem?_set]
        have h3 := hs c hc2
        rw [List.getD_eq_getElem?_getD] at h3
        by_cases hci : l[i].toNat = c
        · rw [if_pos hci, if_pos (by omega)]
          have : (c : Int) = l[i] := by omega
          exact (decide_eq_true (List.mem_append.2 (.inr (by rw [this]; exact List.mem_singleton.2 rfl)))).symm
        · rw [if_neg hci, h3]
          have : ¬ (c : Int) = l[i] := by omega
          exact decide_eq_decide.2 ⟨fun h => List.mem_append.2 (.inl h), fun h => (List.mem_append.1 h).resolve_right (fun h => this (List.mem_singleton.1 h))⟩
      · rw [Bool.not_eq_true] at h2
        rw [h2] at he
        unfold hasCard
        rw [h, ← he, take_at l i hi]; simp
    · rw [Bool.not_eq_true] at h
      rw [h]; simp

theorem flat_le : ∀ (l : List (List Int)) (b : Nat), (∀ r ∈ l, r.length ≤ b) → l.flatten.length ≤ b * l.length
  | [], b, _ => by simp
  | r :: l, b, h => by
    have h1 := h r (by simp)
    have h2 := flat_le l b (fun x hx => h x (by simp [hx]))
    rw [List.flatten_cons, List.length_append, List.length_cons, Nat.mul_succ]
    omega
theorem impl_AllApart_ev (l : List (List Int)) (hl : l.length ≤ 1048576000) (hf : l.flatten.length ≤ 1048576000) : Ev (fun k => impl_AllApart.f k l) (isHand l.flatten) := by
  simp only [impl_AllApart.f]
  refine ev_done (ev_loop (fun k (s : List Int) i => impl_AllApart.l0 k s l (l.length : Int) i) l (fun s r => isHand (s ++ r.flatten)) (fun s i => s = (l.take i).flatten) ?_ ?_ [] 0 (by omega) rfl) rfl
  · rintro s hs
    refine ev_unfold (fun k => rfl) ?_
    simp only [impl_AllApart.l0]
    rw [List.take_length] at hs
    refine ev_neg (by omega) (Ev.bind (impl_IsHand_ev s (by rw [hs]; exact hf)) (ev_ret (by simp)))
  · rintro s i hi hs ih
    refine ev_unfold (fun k => rfl) ?_
    simp only [impl_AllApart.l0]
    rw [w64next i (by omega), rdss_at l i hi]
    have e : s ++ l[i] = (l.take (i + 1)).flatten := by rw [take_at l i hi, List.flatten_append, ← hs]; simp
    have hle : (s ++ l[i]).length ≤ 1048576000 := by
      rw [e]
      have h1 : l.flatten = (l.take (i + 1)).flatten ++ (l.drop (i + 1)).flatten := by rw [← List.flatten_append, List.take_append_drop]
      rw [h1, List.length_append] at hf
      omega
    rw [List.length_append] at hle
    refine ev_pos (by omega) (ev_pos (by omega) (ev_pos (by omega) (ev_pos (by omega) (ev_done (ih _ e) ?_))))
    rw [List.flatten_cons, List.append_assoc]

theorem impl_copyOf_eq (l : List Int) (hl : l.length ≤ 1048576000) : impl_copyOf.f l = some l := by
  unfold impl_copyOf.f
  simp only [Option.bind_some, List.length_nil, List.nil_append]
  rw [if_pos (by omega)]

theorem impl_copyRows_ev (l : List (List Int)) (hl : l.length ≤ 1048576000) (hr : ∀ r ∈ l, r.length ≤ 1048576000) : Ev (fun k => impl_copyRows.f k l) l := by
  simp only [impl_copyRows.f]
  refine ev_done (ev_loop (fun k (s : List (List Int)) i => impl_copyRows.l0 k s l (l.length : Int) i) l (fun s r => s ++ r) (fun s i => s.length = i) ?_ ?_ [] 0 (by omega) rfl) (by simp)
  · rintro s hs
    refine ev_unfold (fun k => rfl) ?_
    simp only [impl_copyRows.l0]
    exact ev_neg (by omega) (ev_ret (by simp))
  · rintro s i hi hs ih
    refine ev_unfold (fun k => rfl) ?_
    simp only [impl_copyRows.l0]
    rw [w64next i (by omega), rdss_at l i hi]
    refine ev_pos (by omega) (ev_pos (by omega) (ev_pos (by omega) (ev_eq (impl_copyOf_eq _ (hr _ (List.getElem_mem hi))) (ev_pos (by omega) ?_))))
    refine ev_done (ih _ (by simp [hs])) ?_
    simp

theorem impl_sum_ev (l : List Int) (hl : l.length ≤ 1048576000) : Ev (fun k => impl_sum.f k l) (wsum 0 l) := by
  simp only [impl_sum.f]
  refine ev_loop (fun k (s : Int) i => impl_sum.l0 k s l (l.length : Int) i) l (fun s r => wsum s r) (fun _ _ => True) ?_ ?_ 0 0 (by omega) trivial
  · rintro s _
    refine ev_unfold (fun k => rfl) ?_
    simp only [impl_sum.l0]
    exact ev_neg (by omega) (ev_ret rfl)
  · rintro s i hi _ ih
    refine ev_unfold (fun k => rfl) ?_
    simp only [impl_sum.l0]
    refine ev_pos (by omega) (ev_pos (by omega) (ev_pos (by omega) ?_))
    rw [w64next i (by omega), rd_at l i hi]
    exact ih _ trivial

theorem impl_IsDeal_ev (h : List (List Int)) (a1 a2 : Int) (t w p : List Int) (a6 : Int) (hl : h.length ≤ 1048576000) (hr : ∀ r ∈ h, r.length ≤ 1048576000) (hf : totalLen h + t.length ≤ 1048576000) (hw : w.length ≤ 1048576000) :
    Ev (fun k => impl_IsDeal.f k h a1 a2 t w p a6) (isDeal h a1 a2 t w p a6) := by
  rw [← isDeal_iff]
  have hj : ∀ (b : Bool), (inR h.length 2 4 && (decide ((w.length : Int) = h.length) && (decide ((p.length : Int) = h.length) && w.all fun x => inR x 0 26))) = b → Ev (fun k => impl_IsDeal.j0 k (h.length : Int) (!b) h a1 a2 t w p a6) (isDealI h a1 a2 t w p a6) := by
    intro b hb
    refine ev_unfold (fun k => rfl) ?_
    simp only [impl_IsDeal.j0]
    unfold isDealI
    rw [hb]
    refine ev_ite (fun hc => ev_ret ?_) (fun hc => ?_)
    · rw [Bool.not_eq_true'] at hc; rw [hc]; rfl
    rw [Bool.not_eq_true, Bool.not_eq_false'] at hc
    subst hc
    simp only [Bool.and_eq_true, inR_iff, decide_eq_true_eq] at hb
    obtain ⟨b1, b2, b3, b4⟩ := hb
    rw [Bool.true_and]
    obtain ⟨R, hR⟩ : ∃ R, R = ((isHand (h ++ [t]).flatten && (inR a1 0 (h.length - 1) && (inR a2 (-1) 3 && (inR a6 0 26 && !decide ((t.length : Int) ≥ h.length))))) && allFrom (fun i => decide (cardsAt h i = wantAt a1 a6 h.length t.length (wsum 0 w) i)) h.length 0) := ⟨_, rfl⟩
    rw [← hR]
    refine ev_loop (fun k (_ : Unit) i => impl_IsDeal.l0 k (h.length : Int) p (p.length : Int) i h a1 a2 t w p a6) p (fun _ r => (r.all fun x => !decide (x < 0)) && R) (fun _ _ => True) ?_ ?_ () 0 (by omega) trivial
    rotate_left
    · rintro s i hi _ ih
      refine ev_unfold (fun k => rfl) ?_
      simp only [impl_IsDeal.l0]
      rw [w64next i (by omega), rd_at p i hi, List.all_cons]
      refine ev_pos (by omega) (ev_pos (by omega) (ev_pos (by omega) (ev_ite (fun h1 => ev_ret ?_) (fun h1 => ev_done (ih () trivial) ?_))))
      · rw [decide_eq_true h1]; rfl
      · rw [decide_eq_false h1]; rfl
    rintro s _
    refine ev_unfold (fun k => rfl) ?_
    simp only [impl_IsDeal.l0]
    refine ev_neg (by omega) (Ev.bind (impl_copyRows_ev h hl hr) (ev_eq rfl (ev_pos (by simp only [List.length_cons, List.length_nil]; omega) ?_)))
    refine Ev.bind (impl_AllApart_ev (h ++ [t]) (by rw [List.length_append]; simp; omega) (by rw [flat_snoc_length]; omega)) ?_
    rw [show (([] : List Int).all fun x => !decide (x < 0)) = true from rfl, Bool.true_and, w64 ((h.length : Int) - 1) (by omega)]
    have hj2 : ∀ b : Bool, (isHand (h ++ [t]).flatten && (inR a1 0 (h.length - 1) && (inR a2 (-1) 3 && (inR a6 0 26 && !decide ((t.length : Int) ≥ h.length))))) = !b → Ev (fun k => impl_IsDeal.j2 k (h.length : Int) b h a1 a2 t w p a6) R := by
      intro b hb
      refine ev_unfold (fun k => rfl) ?_
      simp only [impl_IsDeal.j2]
      rw [hR, hb]
      refine ev_ite (fun hc => ev_ret (by rw [hc]; rfl)) (fun hc => ?_)
      rw [Bool.not_eq_true] at hc
      rw [hc, Bool.not_false, Bool.true_and]
      refine ev_loopN (fun k (_ : Unit) i => impl_IsDeal.l1 k (h.length : Int) (h.length : Int) i h a1 a2 t w p a6) h.length (fun _ i => allFrom (fun i => decide (cardsAt h i = wantAt a1 a6 h.length t.length (wsum 0 w) i)) h.length i) (fun _ _ => True) ?_ ?_ () 0 (by omega) trivial
      · rintro s _
        refine ev_unfold (fun k => rfl) ?_
        simp only [impl_IsDeal.l1]
        exact ev_neg (by omega) (ev_ret (allFrom_end _ _).symm)
      · rintro s i hi _ ih
        have ih := ih () trivial
        refine ev_unfold (fun k => rfl) ?_
        simp only [impl_IsDeal.l1]
        rw [allFrom_step _ hi, w64next i (by omega), rdss_line]
        refine ev_pos (by omega) (Ev.bind (impl_sum_ev w hw) (ev_neg (by omega) ?_))
        unfold wantAt cardsAt at ih ⊢
        refine ev_ite (fun h1 => ?_) (fun h1 => ?_)
        · rw [if_pos h1]
          refine ev_pos (by omega) (ev_pos (by omega) (ev_ite (fun h2 => ev_done ih ?_) (fun h2 => ev_ret ?_)))
          · rw [decide_eq_true h2]; rfl
          · rw [decide_eq_false h2]; rfl
        · rw [if_neg h1]
          refine ev_pos (by omega) (ev_pos (by omega) (ev_ite (fun h2 => ev_done ih ?_) (fun h2 => ev_ret ?_)))
          · rw [decide_eq_true h2]; rfl
          · rw [decide_eq_false h2]; rfl
    have ht := hj2 (!(isHand (h ++ [t]).flatten && (inR a1 0 (h.length - 1) && (inR a2 (-1) 3 && (inR a6 0 26 && !decide ((t.length : Int) ≥ h.length)))))) (by rw [Bool.not_not])
    refine ev_ite (fun c1 => ?_) (fun c1 => ?_)
    rotate_left
    · rw [Bool.not_eq_true] at c1; rw [c1] at ht; exact ht
    rw [c1, Bool.true_and] at ht
    refine ev_eq (impl_InRange_eq _ _ _) (ev_ite (fun c1 => ?_) (fun c1 => ?_))
    rotate_left
    · rw [Bool.not_eq_true] at c1; rw [c1] at ht; exact ht
    rw [c1, Bool.true_and] at ht
    refine ev_eq (impl_InRange_eq _ _ _) (ev_ite (fun c1 => ?_) (fun c1 => ?_))
    rotate_left
    · rw [Bool.not_eq_true] at c1; rw [c1] at ht; exact ht
    rw [c1, Bool.true_and] at ht
    refine ev_eq (impl_InRange_eq _ _ _) (ev_ite (fun c1 => ?_) (fun c1 => ?_))
    rotate_left
    · rw [Bool.not_eq_true] at c1; rw [c1] at ht; exact ht
    rw [c1, Bool.true_and, Bool.not_not] at ht
    exact ht
  have ht := hj _ rfl
  simp only [impl_IsDeal.f]
  refine ev_eq (impl_InRange_eq _ _ _) (ev_ite (fun c1 => ?_) (fun c1 => ?_))
  rotate_left
  · rw [Bool.not_eq_true] at c1; rw [c1] at ht; exact ht
  rw [c1, Bool.true_and] at ht
  refine ev_ite (fun c2 => ?_) (fun c2 => ?_)
  rotate_left
  · rw [decide_eq_false c2] at ht; exact ht
  rw [decide_eq_true c2, Bool.true_and] at ht
  refine ev_ite (fun c3 => ?_) (fun c3 => ?_)
  rotate_left
  · rw [decide_eq_false c3] at ht; exact ht
  rw [decide_eq_true c3, Bool.true_and] at ht
  exact Ev.bind (impl_allIn_ev w 0 26 hw) ht

theorem impl_TotalCards_ev (l : List (List Int)) (hl : l.length ≤ 1048576000) : Ev (fun k => impl_TotalCards.f k l) (cardsW 0 l) := by
  simp only [impl_TotalCards.f]
  refine ev_loop (fun k (s : Int) i => impl_TotalCards.l0 k s l (l.length : Int) i) l (fun s r => cardsW s r) (fun _ _ => True) ?_ ?_ 0 0 (by omega) trivial
  · rintro s _
    refine ev_unfold (fun k => rfl) ?_
    simp only [impl_TotalCards.l0]
    exact ev_neg (by omega) (ev_ret rfl)
  · rintro s i hi _ ih
    refine ev_unfold (fun k => rfl) ?_
    simp only [impl_TotalCards.l0]
    rw [w64next i (by omega), rdss_at l i hi]
    refine ev_pos (by omega) (ev_pos (by omega) (ev_pos (by omega) ?_))
    exact ih _ trivial

theorem impl_IsOver_ev (h : List (List Int)) (a1 a2 : Int) (t w p : List Int) (a6 : Int) (hl : h.length ≤ 1048576000) (hf : totalLen h + t.length ≤ 1048576000) (hw : w.length ≤ 1048576000) (hr : ∀ r ∈ h, r.length ≤ 1048576000) :
    Ev (fun k => impl_IsOver.f k h a1 a2 t w p a6) (isDeal h a1 a2 t w p a6 && (decide (cardsW 0 h = 0) && ((t.length : Int) == 0))) := by
  simp only [impl_IsOver.f]
  refine Ev.bind (impl_IsDeal_ev h a1 a2 t w p a6 hl hr hf hw) (ev_ite (fun c => ?_) (fun c => ev_ret ?_))
  · rw [c, Bool.true_and]
    refine Ev.bind (impl_TotalCards_ev h hl) (ev_ite (fun c => ev_ret ?_) (fun c => ev_ret ?_))
    · rw [decide_eq_true c]; rfl
    · rw [decide_eq_false c]; rfl
  · rw [Bool.not_eq_true] at c; rw [c]; rfl

theorem FnExactIsOver : ∀ (h : List (List Int)) (a1 a2 : Int) (t w p : List Int) (a6 : Int), h.length ≤ maxLen → (∀ r ∈ h, r.length ≤ maxLen) → (∀ r ∈ h, ∀ x ∈ r, (Lit.int .i64 x).wf = true) → (Lit.int .i64 a1).wf = true → (Lit.int .i64 a2).wf = true → t.length ≤ maxLen → (∀ x ∈ t, (Lit.int .i64 x).wf = true) → w.length ≤ maxLen → (∀ x ∈ w, (Lit.int .i64 x).wf = true) → p.length ≤ maxLen → (∀ x ∈ p, (Lit.int .i64 x).wf = true) → (Lit.int .i64 a6).wf = true → ∃ k, laws_FnExactIsOver.f k h a1 a2 t w p a6 = some true := by
  intro h a1 a2 t w p a6 hl0 hr0 _ _ _ ht0 _ hw0 _ hp0 _ _
  refine Ev.rounds ?_
  simp only [laws_FnExactIsOver.f]
  refine Ev.bind (laws_szDeal_ev h a1 a2 t w p a6 hl0 hr0 ht0 hw0 hp0) (ev_ite (fun _ => Ev.now _) (fun hc => ?_))
  have h2 := (bLeft_some hc).1
  have hl : h.length ≤ 1048576000 := by omega
  have hr : ∀ r ∈ h, r.length ≤ 1048576000 := fun r hr => by have := len_le_total hr; omega
  have ht : t.length ≤ 1048576000 := by omega
  have hw : w.length ≤ 1048576000 := by omega
  have hp : p.length ≤ 1048576000 := by omega
  have e := laws_toDeal_ev h a1 a2 t w p a6 hl hr ht hw hp
  refine Ev.bind e (Ev.bind (spec_IsOver_ev h a1 a2 t w p a6 hl (by omega) hw) (Ev.bind e (Ev.bind (impl_IsOver_ev h a1 a2 t w p a6 hl (by omega) hw hr) (ev_neg (by simp) ?_))))
  exact Ev.bind e (Ev.bind (laws_eqDeal_ev h a1 a2 t w p a6 hl hr ht hw hp) (ev_pos rfl (Ev.now _)))

end Go.Proofs.Ytecjbogconeilaa.Pure
