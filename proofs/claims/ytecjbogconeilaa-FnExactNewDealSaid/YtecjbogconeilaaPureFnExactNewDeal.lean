/- In the given program FnExactNewDeal answers true for every input, by what its functions compute; no condition. -/
import Derived.Test.YtecjbogconeilaaQFnExactNewDealx0
import Derived.Test.YtecjbogconeilaaQFnExactNewDealx1
import Derived.Test.YtecjbogconeilaaQFnExactNewDealx2
import Derived.Test.YtecjbogconeilaaQFnExactNewDealx3
import Derived.Test.YtecjbogconeilaaQFnExactNewDealx4
import Derived.Test.YtecjbogconeilaaQFnExactNewDealx5
import Derived.Test.YtecjbogconeilaaQFnExactNewDealx6
import Derived.Test.YtecjbogconeilaaQFnExactNewDealx7
import Derived.Test.YtecjbogconeilaaQFnExactNewDealx8
import Derived.Test.YtecjbogconeilaaLib
import Derived.Test.YtecjbogconeilaaCards
import Derived.Test.YtecjbogconeilaaCards2
import Derived.Test.YtecjbogconeilaaCalls
import Derived.Test.YtecjbogconeilaaHands
import Derived.Test.YtecjbogconeilaaSheets
import Derived.Test.YtecjbogconeilaaDraw
import Derived.Test.YtecjbogconeilaaDeal
import Derived.Test.YtecjbogconeilaaMarks
import Derived.Test.YtecjbogconeilaaPlay
namespace Go.Proofs.Ytecjbogconeilaa.Pure
open Go.RowKit Go.Proofs.Ytecjbogconeilaa.QFnExactNewDeal Go.Proofs.YtecjbogconeilaaW.PrintWords Go.Proofs.YtecjbogconeilaaW.PrintLast Go.Proofs.YtecjbogconeilaaW.PrintMore Go.Proofs.Ytecjbogconeilaa.Lib
set_option linter.unusedVariables false
set_option linter.unusedSimpArgs false

theorem rdss_at (l : List (List Int)) (i : Nat) (h : i < l.length) : rd_L1 l (i : Int) = l[i] := by
  unfold rd_L1
  rw [Int.toNat_natCast, List.getD_eq_getElem?_getD, List.getElem?_eq_getElem h]
  rfl

theorem laws_eqIntS_ev (a b : List Int) (ha : a.length ≤ 1048576000) : Ev (fun k => laws_eqIntS.f k a b) (decide (a = b)) := by
  simp only [laws_eqIntS.f]
  refine ev_ite (fun hlen => ?_) (fun hne => ev_ret ?_)
  · have hlen' : a.length = b.length := by omega
    have h := ev_loop (fun k (_ : Unit) i => laws_eqIntS.l0 k a b i) a (fun _ r => decide (r = b.drop (a.length - r.length))) (fun _ _ => True) ?_ ?_ () 0 (by omega) trivial
    · refine ev_done h ?_
      simp
    · rintro _ _
      refine ev_unfold (fun k => rfl) ?_
      simp only [laws_eqIntS.l0]
      refine ev_neg (by omega) (ev_ret ?_)
      rw [List.length_nil, Nat.sub_zero, hlen', drop_end]
      simp
    · rintro _ i hi _ ih
      refine ev_unfold (fun k => rfl) ?_
      simp only [laws_eqIntS.l0]
      refine ev_pos (by omega) (ev_pos (by omega) (ev_pos (by omega) ?_))
      rw [w64next i (by omega), rd_at a i hi, rd_at b i (by omega)]
      have e1 : a.length - (a[i] :: a.drop (i + 1)).length = i := by simp; omega
      have e2 : a.length - (a.drop (i + 1)).length = i + 1 := by simp; omega
      refine ev_ite (fun heq => ?_) (fun hne => ev_ret ?_)
      · refine ev_done (ih () trivial) ?_
        rw [e1, e2, drop_at b i (by omega), heq]
        exact decide_eq_decide.2 ⟨fun h => by rw [h], fun h => (List.cons.inj h).2⟩
      · rw [e1, drop_at b i (by omega)]
        exact (decide_eq_false (fun h => hne (List.cons.inj h).1)).symm
  · have : a ≠ b := by rintro rfl; exact hne rfl
    simp [this]

theorem laws_eqIntSS_ev (a b : List (List Int)) (ha : a.length ≤ 1048576000) (hr : ∀ r ∈ a, r.length ≤ 1048576000) : Ev (fun k => laws_eqIntSS.f k a b) (decide (a = b)) := by
  simp only [laws_eqIntSS.f]
  refine ev_ite (fun hlen => ?_) (fun hne => ev_ret ?_)
  · have hlen' : a.length = b.length := by omega
    refine ev_done (ev_loopN (fun k (_ : Unit) i => laws_eqIntSS.l0 k a b i) a.length (fun _ i => decide (a.drop i = b.drop i)) (fun _ _ => True) ?_ ?_ () 0 (by omega) trivial) (by simp)
    · rintro _ _
      refine ev_unfold (fun k => rfl) ?_
      simp only [laws_eqIntSS.l0]
      refine ev_neg (by omega) (ev_ret ?_)
      rw [drop_end, hlen', drop_end]; simp
    · rintro _ i hi _ ih
      refine ev_unfold (fun k => rfl) ?_
      simp only [laws_eqIntSS.l0]
      rw [w64next i (by omega), rdss_at a i hi, rdss_at b i (by omega), drop_at a i hi, drop_at b i (by omega)]
      refine ev_pos (by omega) (ev_pos (by omega) (ev_pos (by omega) (Ev.bind (laws_eqIntS_ev _ _ (hr _ (List.getElem_mem hi))) ?_)))
      refine ev_ite (fun heq => ?_) (fun hne => ev_ret ?_)
      · refine ev_done (ih () trivial) ?_
        have heq' := of_decide_eq_true heq
        exact decide_eq_decide.2 ⟨fun h => by rw [h, heq'], fun h => (List.cons.inj h).2⟩
      · exact (decide_eq_false (fun h => hne (decide_eq_true (List.cons.inj h).1))).symm
  · have : a ≠ b := by rintro rfl; exact hne rfl
    simp [this]

theorem laws_markIntS_ev (l : List Int) (a : Int) (hl : l.length ≤ 1073741824) (ha : 0 ≤ a ∧ a ≤ 1073741824) : Ev (fun k => laws_markIntS.f k l a) (a + (l.length : Int), marks a l.length) := by
  simp only [laws_markIntS.f]
  refine ev_loop (fun k (s : List Int × Int) i => laws_markIntS.l0 k s.1 s.2 i) l (fun _ _ => (a + (l.length : Int), marks a l.length)) (fun s i => s.1.length = l.length ∧ s.2 = a + i ∧ s.1.take i = marks a i) ?_ ?_ (l, a) 0 (by omega) ⟨rfl, by simp, by simp [marks]⟩
  · rintro ⟨s, n⟩ ⟨h1, h2, h3⟩
    simp only at h1 h2 h3
    refine ev_unfold (fun k => rfl) ?_
    simp only [laws_markIntS.l0]
    refine ev_neg (by omega) (ev_ret ?_)
    rw [List.take_of_length_le (by omega)] at h3
    rw [h2, h3]
  · rintro ⟨s, n⟩ i hi ⟨h1, h2, h3⟩ ih
    simp only at h1 h2 h3
    refine ev_unfold (fun k => rfl) ?_
    simp only [laws_markIntS.l0]
    refine ev_pos (by omega) (ev_pos (by omega) ?_)
    rw [w64next i (by omega), Int.toNat_natCast, w64 (n + 1) (by omega)]
    refine ih (s.set i n, n + 1) ⟨by simpa using h1, by simp only; omega, ?_⟩
    simp only [h2]
    exact marks_step a s i (by omega) h3

theorem laws_markIntSS_ev (l : List (List Int)) (a : Int) (hl : l.length ≤ 1048576000) (ht : totalLen l ≤ 268435456) (ha : 0 ≤ a ∧ a ≤ 268435456) : Ev (fun k => laws_markIntSS.f k l a) (a + (totalLen l : Int), markRows a l) := by
  simp only [laws_markIntSS.f]
  refine ev_loop (fun k (s : List (List Int) × Int) i => laws_markIntSS.l0 k s.1 s.2 i) l (fun _ _ => (a + (totalLen l : Int), markRows a l)) (fun s i => s.1 = markRows a (l.take i) ++ l.drop i ∧ s.2 = a + (totalLen (l.take i) : Int)) ?_ ?_ (l, a) 0 (by omega) ⟨by simp [markRows], by simp [totalLen]⟩
  · rintro ⟨s, n⟩ ⟨h1, h2⟩
    simp only at h1 h2
    rw [List.take_length, List.drop_length, List.append_nil] at h1
    rw [List.take_length] at h2
    refine ev_unfold (fun k => rfl) ?_
    simp only [laws_markIntSS.l0]
    refine ev_neg (by rw [h1, markRows_length]; omega) (ev_ret ?_)
    rw [h1, h2]
  · rintro ⟨s, n⟩ i hi ⟨h1, h2⟩ ih
    simp only at h1 h2
    have hm : (markRows a (l.take i)).length = i := by rw [markRows_length, List.length_take]; omega
    have hs : s.length = l.length := by rw [h1, List.length_append, hm, List.length_drop]; omega
    rw [drop_at l i hi] at h1
    have hg : s.getD (i : Int).toNat [] = l[i] := by
      rw [Int.toNat_natCast, h1, List.getD_eq_getElem?_getD, List.getElem?_append_right (by omega), hm, Nat.sub_self]
      rfl
    have hsp := totalLen_split l (i + 1)
    have htk : totalLen (l.take (i + 1)) = totalLen (l.take i) + l[i].length := by rw [take_at l i hi, totalLen_snoc]
    refine ev_unfold (fun k => rfl) ?_
    simp only [laws_markIntSS.l0]
    rw [hg, w64next i (by omega), Int.toNat_natCast]
    refine ev_pos (by omega) (ev_pos (by omega) (Ev.bind (laws_markIntS_ev l[i] n (by omega) (by omega)) (ih (s.set i (marks n l[i].length), n + (l[i].length : Int)) ⟨?_, ?_⟩)))
    · simp only
      rw [h1, List.set_append_right _ _ (by omega), hm, Nat.sub_self, List.set_cons_zero, take_at l i hi, markRows_snoc, List.append_assoc, h2]
      rfl
    · simp only
      rw [htk, h2]
      omega

theorem laws_eqDeal_ev (h : List (List Int)) (a1 a2 : Int) (t w p : List Int) (a6 : Int) (hl : h.length ≤ 1048576000) (hr : ∀ r ∈ h, r.length ≤ 1048576000) (ht : t.length ≤ 1048576000) (hw : w.length ≤ 1048576000) (hp : p.length ≤ 1048576000) :
    Ev (fun k => laws_eqDeal.f k h a1 a2 t w p a6 h a1 a2 t w p a6) true := by
  simp only [laws_eqDeal.f]
  exact Ev.bind (laws_eqIntSS_ev h h hl hr) (ev_pos (by simp) (ev_pos trivial (ev_pos trivial (Ev.bind (laws_eqIntS_ev t t ht) (ev_pos (by simp) (Ev.bind (laws_eqIntS_ev w w hw) (ev_pos (by simp) (Ev.bind (laws_eqIntS_ev p p hp) (ev_pos (by simp) (ev_pos trivial (Ev.now _)))))))))))

theorem laws_szIntS_eq (l : List Int) (a : Int) (ha : -1 ≤ a ∧ a ≤ 1048576) (hl : l.length ≤ maxLen) : laws_szIntS.f l a = some (bLeft a l.length) := by
  simp only [maxLen] at hl
  unfold laws_szIntS.f bLeft
  rw [w64 _ (by omega)]
  split <;> rfl

theorem laws_szIntSS_ev (l : List (List Int)) (a : Int) (ha : 0 ≤ a ∧ a ≤ 1048576) (hl : l.length ≤ maxLen) (hr : ∀ r ∈ l, r.length ≤ maxLen) : Ev (fun k => laws_szIntSS.f k l a) (bLeft a (l.length + totalLen l)) := by
  simp only [maxLen] at hl
  simp only [laws_szIntSS.f]
  rw [w64 (a - (l.length : Int)) (by omega)]
  refine ev_ite (fun h => ev_ret ?_) (fun h => ?_)
  · exact (bLeft_no (by unfold bLeft; rw [if_pos h]; omega)).symm
  · have h0 : ¬ bLeft a l.length < 0 := by unfold bLeft; rw [if_neg h]; exact h
    have e0 := (bLeft_some h0).2
    rw [← e0]
    refine ev_done (ev_loop (fun k (s : Int) i => laws_szIntSS.l0 k l s i) l (fun s r => bLeft s (totalLen r)) (fun s i => 0 ≤ s ∧ s ≤ 1048576 ∧ l.length ≤ 1048576) ?_ ?_ (bLeft a l.length) 0 (by omega) ⟨by omega, by omega, by omega⟩) ?_
    · rintro s ⟨h1, _, _⟩
      refine ev_unfold (fun k => rfl) ?_
      simp only [laws_szIntSS.l0]
      refine ev_neg (by omega) (ev_ret ?_)
      unfold bLeft totalLen
      simp; omega
    · rintro s i hi ⟨h1, h2, h3⟩ ih
      refine ev_unfold (fun k => rfl) ?_
      simp only [laws_szIntSS.l0]
      rw [w64next i (by omega), rdss_at l i hi, totalLen_cons]
      refine ev_pos (by omega) (ev_pos (by omega) (ev_eq (laws_szIntS_eq _ _ (by omega) (hr _ (List.getElem_mem hi))) ?_))
      refine ev_ite (fun h => ev_ret (bLeft_no h).symm) (fun h => ?_)
      have h4 := bLeft_some h
      refine ev_done (ih (bLeft s l[i].length) ⟨by omega, by omega, h3⟩) ?_
      exact bLeft_then h
    · rw [List.drop_zero]; exact bLeft_then h0

theorem spec_l1In_eq (n a b : Int) : spec_l1In.f n a b = some (inR n a b) := by
  unfold spec_l1In.f inR
  by_cases h : a ≤ n
  · rw [if_pos (by omega)]; simp [h]
  · rw [if_neg (by omega)]; simp [h]

theorem spec_HasCard_ev (l : List Int) (c : Int) (hl : l.length ≤ 1048576000) : Ev (fun k => spec_HasCard.f k l c) (hasCard l c) := by
  simp only [spec_HasCard.f]
  refine ev_done (ev_loop (fun k (_ : Unit) i => spec_HasCard.l0 k l c i) l (fun _ r => hasCard r c) (fun _ _ => True) ?_ ?_ () 0 (by omega) trivial) rfl
  · rintro s _
    refine ev_unfold (fun k => rfl) ?_
    simp only [spec_HasCard.l0]
    exact ev_neg (by omega) (ev_ret (by simp [hasCard]))
  · rintro s i hi _ ih
    refine ev_unfold (fun k => rfl) ?_
    simp only [spec_HasCard.l0]
    rw [w64next i (by omega), rd_at l i hi]
    refine ev_pos (by omega) (ev_pos (by omega) (ev_ite (fun h => ev_ret ?_) (fun h => ev_done (ih () trivial) ?_)))
    · simp [hasCard, h]
    · have h2 : ¬ c = l[i] := fun e => h e.symm
      simp only [hasCard, List.mem_cons]
      exact decide_eq_decide.2 ⟨fun h => .inr h, fun h => h.resolve_left h2⟩

theorem spec_IsCard_eq (c : Int) : spec_IsCard.f c = some (isCard c) := by
  unfold spec_IsCard.f isCard
  rw [spec_l1In_eq]; rfl

theorem spec_IsHand_ev (l : List Int) (hl : l.length ≤ 1048576000) : Ev (fun k => spec_IsHand.f k l) (isHand l) := by
  simp only [spec_IsHand.f]
  refine ev_done (ev_loopN (fun k (_ : Unit) i => spec_IsHand.l0 k l i) l.length (fun _ i => handF (l.take i) (l.drop i)) (fun _ _ => True) ?_ ?_ () 0 (by omega) trivial) (by simp [isHand])
  · rintro s _
    refine ev_unfold (fun k => rfl) ?_
    simp only [spec_IsHand.l0]
    refine ev_neg (by omega) (ev_ret ?_)
    rw [drop_end]; rfl
  · rintro s i hi _ ih
    have ht : (l.take i).length ≤ 1048576000 := by simp; omega
    refine ev_unfold (fun k => rfl) ?_
    simp only [spec_IsHand.l0]
    rw [w64next i (by omega), rd_at l i hi, drop_at l i hi, Int.toNat_natCast]
    unfold handF
    refine ev_pos (by omega) (ev_pos (by omega) (ev_eq (spec_IsCard_eq _) (ev_ite (fun h => ?_) (fun h => ev_ret ?_))))
    · refine ev_pos (by omega) (Ev.bind (spec_HasCard_ev _ _ ht) (ev_ite (fun h2 => ev_ret ?_) (fun h2 => ev_done (ih () trivial) ?_)))
      · rw [h2]; simp
      · rw [Bool.not_eq_true] at h2
        rw [h, h2, take_at l i hi]; simp
    · rw [Bool.not_eq_true] at h
      rw [h]; simp

theorem spec_AllApart_ev (l : List (List Int)) (hl : l.length ≤ 1048576000) (hf : l.flatten.length ≤ 1048576000) : Ev (fun k => spec_AllApart.f k l) (isHand l.flatten) := by
  simp only [spec_AllApart.f]
  refine ev_done (ev_loop (fun k (s : List Int) i => spec_AllApart.l0 k l s i) l (fun s r => isHand (s ++ r.flatten)) (fun s i => s = (l.take i).flatten) ?_ ?_ [] 0 (by omega) rfl) rfl
  · rintro s hs
    refine ev_unfold (fun k => rfl) ?_
    simp only [spec_AllApart.l0]
    rw [List.take_length] at hs
    refine ev_neg (by omega) (Ev.bind (spec_IsHand_ev s (by rw [hs]; exact hf)) (ev_ret (by simp)))
  · rintro s i hi hs ih
    refine ev_unfold (fun k => rfl) ?_
    simp only [spec_AllApart.l0]
    rw [w64next i (by omega), rdss_at l i hi]
    have e : s ++ l[i] = (l.take (i + 1)).flatten := by rw [take_at l i hi, List.flatten_append, ← hs]; simp
    have hle : (s ++ l[i]).length ≤ 1048576000 := by
      rw [e]
      have h1 : l.flatten = (l.take (i + 1)).flatten ++ (l.drop (i + 1)).flatten := by rw [← List.flatten_append, List.take_append_drop]
      rw [h1, List.length_append] at hf
      omega
    rw [List.length_append] at hle
    refine ev_pos (by omega) (ev_pos (by omega) (ev_pos (by omega) (ev_done (ih _ e) ?_)))
    rw [List.flatten_cons, List.append_assoc]

theorem spec_Max_eq (a b : Int) : spec_Max.f a b = some (max a b) := by
  unfold spec_Max.f
  split <;> (congr 1; omega)

theorem spec_Min_eq (a b : Int) : spec_Min.f a b = some (min a b) := by
  unfold spec_Min.f
  split <;> (congr 1; omega)

theorem spec_l12Sum_ev (l : List Int) (hl : l.length ≤ 1048576000) : Ev (fun k => spec_l12Sum.f k l) (capSum 0 l) := by
  simp only [spec_l12Sum.f]
  refine ev_loop (fun k (s : Int) i => spec_l12Sum.l0 k l s i) l (fun s r => capSum s r) (fun _ _ => True) ?_ ?_ 0 0 (by omega) trivial
  · rintro s _
    refine ev_unfold (fun k => rfl) ?_
    simp only [spec_l12Sum.l0]
    exact ev_neg (by omega) (ev_ret rfl)
  · rintro s i hi _ ih
    refine ev_unfold (fun k => rfl) ?_
    simp only [spec_l12Sum.l0]
    rw [w64next i (by omega), rd_at l i hi]
    refine ev_pos (by omega) (ev_pos (by omega) (ev_eq (spec_Min_eq _ _) (ev_eq (spec_Max_eq _ _) ?_)))
    exact ih _ trivial

theorem flat_snoc_length (h : List (List Int)) (t : List Int) : (h ++ [t]).flatten.length = totalLen h + t.length := by
  rw [List.flatten_append, List.length_append, List.length_flatten]; simp [totalLen]
theorem rdss_line (h : List (List Int)) (i : Nat) : rd_L1 h (i : Int) = lineAt h (i : Int) := rfl
theorem spec_IsDeal_ev (h : List (List Int)) (a1 a2 : Int) (t w p : List Int) (a6 : Int) (hl : h.length ≤ 1048576000) (hf : totalLen h + t.length ≤ 1048576000) (hw : w.length ≤ 1048576000) :
    Ev (fun k => spec_IsDeal.f k h a1 a2 t w p a6) (isDeal h a1 a2 t w p a6) := by
  have hj : ∀ (b : Bool), dealHead h.length w.length p.length a1 a2 a6 t.length = b → Ev (fun k => spec_IsDeal.j0 k (h.length : Int) (!b) h a1 a2 t w p a6) (isDeal h a1 a2 t w p a6) := by
    intro b hb
    refine ev_unfold (fun k => rfl) ?_
    simp only [spec_IsDeal.j0]
    unfold isDeal
    rw [hb]
    refine ev_ite (fun hc => ev_ret ?_) (fun hc => ?_)
    · rw [Bool.not_eq_true'] at hc; rw [hc]; rfl
    rw [Bool.not_eq_true, Bool.not_eq_false'] at hc
    subst hc
    have hb2 := hb
    unfold dealHead at hb2
    simp only [Bool.and_eq_true, inR_iff, decide_eq_true_eq, Bool.not_eq_true', decide_eq_false_iff_not] at hb2
    obtain ⟨b1, b2, b3, b4, b5, b6, b7⟩ := hb2
    refine ev_eq rfl (ev_pos (by simp only [List.length_nil]; omega) (ev_eq rfl (ev_eq rfl (ev_pos (by simp only [List.nil_append, List.length_cons, List.length_nil]; omega) ?_))))
    rw [List.nil_append]
    refine Ev.bind (spec_AllApart_ev (h ++ [t]) (by rw [List.length_append]; simp; omega) (by rw [flat_snoc_length]; omega)) (ev_ite (fun hc => ?_) (fun hc => ev_ret ?_))
    rotate_left
    · rw [Bool.not_eq_true] at hc; rw [hc]; rfl
    rw [hc, Bool.true_and, Bool.true_and]
    refine ev_loopN (fun k (_ : Unit) i => spec_IsDeal.l0 k (h.length : Int) i h a1 a2 t w p a6) h.length (fun _ i => allFrom (dealRow12 h a1 a6 t.length (capSum 0 w) w p) h.length i) (fun _ _ => True) ?_ ?_ () 0 (by omega) trivial
    · rintro s _
      refine ev_unfold (fun k => rfl) ?_
      simp only [spec_IsDeal.l0]
      exact ev_neg (by omega) (ev_ret (allFrom_end _ _).symm)
    · rintro s i hi _ ih
      have ih := ih () trivial
      refine ev_unfold (fun k => rfl) ?_
      simp only [spec_IsDeal.l0]
      have hj2 : ∀ b : Bool, (!(decide (rd w i < 0)) && !(decide (rd p i < 0))) = !b → Ev (fun k => spec_IsDeal.j2 k (h.length : Int) (i : Int) b h a1 a2 t w p a6) (allFrom (dealRow12 h a1 a6 t.length (capSum 0 w) w p) h.length i) := by
        intro b hb
        rw [allFrom_step _ hi]
        refine ev_unfold (fun k => rfl) ?_
        simp only [spec_IsDeal.j2]
        unfold dealRow12
        rw [hb]
        refine ev_ite (fun hc => ev_ret (by rw [hc]; rfl)) (fun hc => ?_)
        rw [Bool.not_eq_true] at hc
        rw [hc, w64next i (by omega), rdss_line]
        refine Ev.bind (spec_l12Sum_ev w hw) (ev_neg (by omega) ?_)
        unfold wantAt cardsAt
        refine ev_ite (fun h1 => ?_) (fun h1 => ?_)
        · rw [if_pos h1]
          refine ev_pos (by omega) (ev_pos (by omega) (ev_ite (fun h2 => ev_done ih ?_) (fun h2 => ev_ret ?_)))
          · rw [decide_eq_true h2]; rfl
          · rw [decide_eq_false h2]; rfl
        · rw [if_neg h1]
          refine ev_pos (by omega) (ev_pos (by omega) (ev_ite (fun h2 => ev_done ih ?_) (fun h2 => ev_ret ?_)))
          · rw [decide_eq_true h2]; rfl
          · rw [decide_eq_false h2]; rfl
      refine ev_pos (by omega) (ev_pos (by omega) (ev_pos (by omega) (ev_ite (fun h1 => hj2 true ?_) (fun h1 => ev_pos (by omega) (hj2 (decide (rd p i < 0)) ?_)))))
      · rw [decide_eq_true h1]; rfl
      · rw [decide_eq_false h1]; rfl
  have ht := hj (dealHead h.length w.length p.length a1 a2 a6 t.length) rfl
  simp only [spec_IsDeal.f]
  rw [w64 ((h.length : Int) - 1) (by omega)]
  unfold dealHead at ht
  refine ev_eq (spec_l1In_eq _ _ _) (ev_ite (fun c1 => ?_) (fun c1 => ?_))
  rotate_left
  · rw [Bool.not_eq_true] at c1; rw [c1] at ht; exact ht
  rw [c1, Bool.true_and] at ht
  refine ev_ite (fun c2 => ?_) (fun c2 => ?_)
  rotate_left
  · rw [decide_eq_false c2] at ht; exact ht
  rw [decide_eq_true c2, Bool.true_and] at ht
  refine ev_ite (fun c3 => ?_) (fun c3 => ?_)
  rotate_left
  · rw [decide_eq_false c3] at ht; exact ht
  rw [decide_eq_true c3, Bool.true_and] at ht
  refine ev_eq (spec_l1In_eq _ _ _) (ev_ite (fun c1 => ?_) (fun c1 => ?_))
  rotate_left
  · rw [Bool.not_eq_true] at c1; rw [c1] at ht; exact ht
  rw [c1, Bool.true_and] at ht
  refine ev_eq (spec_l1In_eq _ _ _) (ev_ite (fun c1 => ?_) (fun c1 => ?_))
  rotate_left
  · rw [Bool.not_eq_true] at c1; rw [c1] at ht; exact ht
  rw [c1, Bool.true_and] at ht
  refine ev_eq (spec_l1In_eq _ _ _) (ev_ite (fun c1 => ?_) (fun c1 => ?_))
  rotate_left
  · rw [Bool.not_eq_true] at c1; rw [c1] at ht; exact ht
  rw [c1, Bool.true_and, Bool.not_not] at ht
  exact ht

theorem spec_l12Copy_ev (h : List (List Int)) (a1 a2 : Int) (t w p : List Int) (a6 : Int) (hl : h.length ≤ 1048576000) (hr : ∀ r ∈ h, r.length ≤ 1048576000) (ht : t.length ≤ 1048576000) (hw : w.length ≤ 1048576000) (hp : p.length ≤ 1048576000) :
    Ev (fun k => spec_l12Copy.f k h a1 a2 t w p a6) (h, a1, a2, t, w, p, a6) := by
  simp only [spec_l12Copy.f]
  refine ev_done (ev_loop (fun k (s : List (List Int)) i => spec_l12Copy.l0 k s i h a1 a2 t w p a6) h (fun s r => (s ++ r, a1, a2, t, w, p, a6)) (fun s i => s.length = i) ?_ ?_ [] 0 (by omega) rfl) rfl
  · rintro s hs
    refine ev_unfold (fun k => rfl) ?_
    simp only [spec_l12Copy.l0, Option.bind_some, List.nil_append, List.length_nil]
    exact ev_neg (by omega) (ev_pos (by omega) (ev_pos (by omega) (ev_pos (by omega) (ev_ret (by simp)))))
  · rintro s i hi hs ih
    refine ev_unfold (fun k => rfl) ?_
    simp only [spec_l12Copy.l0, Option.bind_some, List.nil_append, List.length_nil]
    rw [w64next i (by omega), rdss_at h i hi]
    have h1 := hr _ (List.getElem_mem hi)
    refine ev_pos (by omega) (ev_pos (by omega) (ev_pos (by omega) (ev_pos (by omega) (ev_done (ih _ (by simp [hs])) ?_))))
    simp

theorem spec_NewDeal_ev (h : List (List Int)) (a1 a2 : Int) (hl : h.length ≤ 1048576000) (hr : ∀ r ∈ h, r.length ≤ 1048576000) (hf : totalLen h ≤ 1048576000) :
    Ev (fun k => spec_NewDeal.f k h a1 a2) (newDeal h a1 a2) := by
  simp only [spec_NewDeal.f]
  rw [Int.toNat_natCast]
  refine ev_pos (by omega) (ev_pos (by omega) (Ev.bind (spec_l12Copy_ev h a1 a2 [] (List.replicate h.length 0) (List.replicate h.length 0) 0 hl hr (by simp) (by rw [List.length_replicate]; exact hl) (by rw [List.length_replicate]; exact hl)) ?_))
  refine ev_ite (fun h1 => ev_pos h1 ?_) (fun h1 => ?_)
  · have h0 : (lineAt h 0).length ≤ 1048576000 := lineAt_length hr 0
    have e := newOk_iff h a1 a2 (by omega) h0
    have hi := spec_IsDeal_ev h a1 a2 [] (List.replicate h.length 0) (List.replicate h.length 0) ((lineAt h 0).length : Int) hl (by rw [List.length_nil]; omega) (by rw [List.length_replicate]; exact hl)
    rw [e] at hi
    rw [show rd_L1 h 0 = lineAt h 0 from rfl]
    refine Ev.bind hi ?_
    unfold newDeal
    exact ev_ite (fun h2 => ev_ret (by rw [if_pos h2])) (fun h2 => ev_ret (by rw [if_neg h2]))
  · have hi := spec_IsDeal_ev h a1 a2 [] (List.replicate h.length 0) (List.replicate h.length 0) 0 hl (by rw [List.length_nil]; omega) (by rw [List.length_replicate]; exact hl)
    have e : inR (h.length : Int) 2 4 = false := by
      unfold inR; rw [decide_eq_false]; omega
    have e1 : isDeal h a1 a2 [] (List.replicate h.length 0) (List.replicate h.length 0) 0 = false := by
      unfold isDeal dealHead
      rw [e]; rfl
    rw [e1] at hi
    refine Ev.bind hi (ev_neg (by simp) (ev_ret ?_))
    unfold newDeal newOk
    rw [e]; rfl

theorem laws_toIntS_ev (l : List Int) (hl : l.length ≤ 1048576000) : Ev (fun k => laws_toIntS.f k l) l := by
  simp only [laws_toIntS.f]
  refine ev_pos (by omega) (ev_pos (by omega) ?_)
  refine ev_loop (fun k (s : List Int) i => laws_toIntS.l0 k l s i) l (fun _ _ => l) (fun s i => s.length = l.length ∧ s.take i = l.take i) ?_ ?_ _ 0 (by omega) ⟨by simp, by simp⟩
  · rintro s ⟨h1, h2⟩
    refine ev_unfold (fun k => rfl) ?_
    simp only [laws_toIntS.l0]
    refine ev_neg (by omega) (ev_ret ?_)
    rw [List.take_of_length_le (by omega), List.take_of_length_le (by omega)] at h2
    exact h2
  · rintro s i hi ⟨h1, h2⟩ ih
    refine ev_unfold (fun k => rfl) ?_
    simp only [laws_toIntS.l0]
    refine ev_pos (by omega) (ev_pos (by omega) (ev_pos (by omega) ?_))
    rw [w64next i (by omega), rd_at l i hi, Int.toNat_natCast]
    refine ih _ ⟨by simpa using h1, ?_⟩
    apply List.ext_getElem
    · simp; omega
    · intro j hj1 hj2
      simp at hj1 hj2
      simp only [List.getElem_take, List.getElem_set]
      by_cases hij : i = j
      · subst hij; simp
      · rw [if_neg hij]
        have h3 : (s.take i)[j]'(by simp; omega) = (l.take i)[j]'(by simp; omega) := by simp only [h2]
        simpa using h3

theorem laws_toIntSS_ev (l : List (List Int)) (hl : l.length ≤ 1048576000) (hr : ∀ r ∈ l, r.length ≤ 1048576000) : Ev (fun k => laws_toIntSS.f k l) l := by
  simp only [laws_toIntSS.f]
  refine ev_pos (by omega) (ev_pos (by omega) ?_)
  refine ev_loopN (fun k (s : List (List Int)) i => laws_toIntSS.l0 k l s i) l.length (fun _ _ => l) (fun s i => s.length = l.length ∧ s.take i = l.take i) ?_ ?_ _ 0 (by omega) ⟨by simp, by simp⟩
  · rintro s ⟨h1, h2⟩
    refine ev_unfold (fun k => rfl) ?_
    simp only [laws_toIntSS.l0]
    refine ev_neg (by omega) (ev_ret ?_)
    rw [List.take_of_length_le (by omega), List.take_of_length_le (by omega)] at h2
    exact h2
  · rintro s i hi ⟨h1, h2⟩ ih
    refine ev_unfold (fun k => rfl) ?_
    simp only [laws_toIntSS.l0]
    rw [w64next i (by omega), rdss_at l i hi, Int.toNat_natCast]
    refine ev_pos (by omega) (ev_pos (by omega) (Ev.bind (laws_toIntS_ev _ (hr _ (List.getElem_mem hi))) (ev_pos (by omega) ?_)))
    refine ih _ ⟨by simpa using h1, ?_⟩
    apply List.ext_getElem
    · simp; omega
    · intro j hj1 hj2
      simp at hj1 hj2
      simp only [List.getElem_take, List.getElem_set]
      by_cases hij : i = j
      · subst hij; simp
      · rw [if_neg hij]
        have h3 : (s.take i)[j]'(by simp; omega) = (l.take i)[j]'(by simp; omega) := by simp only [h2]
        simpa using h3

theorem impl_InRange_eq (n a b : Int) : impl_InRange.f n a b = some (inR n a b) := by
  unfold impl_InRange.f inR
  by_cases h : a ≤ n
  · rw [if_pos (by omega)]; simp [h]
  · rw [if_neg (by omega)]; simp [h]

theorem impl_IsCard_eq (c : Int) : impl_IsCard.f c = some (isCard c) := by
  unfold impl_IsCard.f isCard
  rw [impl_InRange_eq]; rfl

theorem impl_IsHand_ev (l : List Int) (hl : l.length ≤ 1048576000) : Ev (fun k => impl_IsHand.f k l) (isHand l) := by
  simp only [impl_IsHand.f]
  refine ev_done (ev_loopN (fun k (s : List Bool) i => impl_IsHand.l0 k l s i) l.length (fun _ i => handF (l.take i) (l.drop i)) (fun s i => s.length = 52 ∧ ∀ c : Nat, c < 52 → s.getD c false = decide ((c : Int) ∈ l.take i)) ?_ ?_ _ 0 (by omega) ⟨by simp, fun c hc => by rw [List.getD_eq_getElem?_getD, List.getElem?_replicate, if_pos hc]; simp⟩) (by simp [isHand])
  · rintro s _
    refine ev_unfold (fun k => rfl) ?_
    simp only [impl_IsHand.l0]
    refine ev_neg (by omega) (ev_ret ?_)
    rw [drop_end]; rfl
  · rintro s i hi ⟨h52, hs⟩ ih
    refine ev_unfold (fun k => rfl) ?_
    simp only [impl_IsHand.l0]
    rw [w64next i (by omega), rd_at l i hi, drop_at l i hi]
    unfold handF
    refine ev_pos (by omega) (ev_pos (by omega) (ev_eq (impl_IsCard_eq _) (ev_ite (fun h => ?_) (fun h => ev_ret ?_))))
    · have hc := (isCard_iff _).1 h
      have he := hs l[i].toNat (by omega)
      rw [show ((l[i].toNat : Nat) : Int) = l[i] by omega] at he
      refine ev_pos (by omega) (ev_pos (by omega) (ev_ite (fun h2 => ev_ret ?_) (fun h2 => ev_done (ih _ ⟨by simpa using h52, fun c hc2 => ?_⟩) ?_)))
      · rw [h2] at he
        unfold hasCard
        rw [← he]; simp
      · rw [take_at l i hi, List.getD_eq_getElem?_getD, List.getElem?_set]
        have h3 := hs c hc2
        rw [List.getD_eq_getElem?_getD] at h3
        by_cases hci : l[i].toNat = c
        · rw [if_pos hci, if_pos (by omega)]
          have : (c : Int) = l[i] := by omega
          exact (decide_eq_true (List.mem_append.2 (.inr (by rw [this]; exact List.mem_singleton.2 rfl)))).symm
        · rw [if_neg hci, h3]
          have : ¬ (c : Int) = l[i] := by omega
          exact decide_eq_decide.2 ⟨fun h => List.mem_append.2 (.inl h), fun h => (List.mem_append.1 h).resolve_right (fun h => this (List.mem_singleton.1 h))⟩
      · rw [Bool.not_eq_true] at h2
        rw [h2] at he
        unfold hasCard
        rw [h, ← he, take_at l i hi]; simp
    · rw [Bool.not_eq_true] at h
      rw [h]; simp

theorem flat_le : ∀ (l : List (List Int)) (b : Nat), (∀ r ∈ l, r.length ≤ b) → l.flatten.length ≤ b * l.length
  | [], b, _ => by simp
  | r :: l, b, h => by
    have h1 := h r (by simp)
    have h2 := flat_le l b (fun x hx => h x (by simp [hx]))
    rw [List.flatten_cons, List.length_append, List.length_cons, Nat.mul_succ]
    omega
theorem impl_AllApart_ev (l : List (List Int)) (hl : l.length ≤ 1048576000) (hf : l.flatten.length ≤ 1048576000) : Ev (fun k => impl_AllApart.f k l) (isHand l.flatten) := by
  simp only [impl_AllApart.f]
  refine ev_done (ev_loop (fun k (s : List Int) i => impl_AllApart.l0 k s l (l.length : Int) i) l (fun s r => isHand (s ++ r.flatten)) (fun s i => s = (l.take i).flatten) ?_ ?_ [] 0 (by omega) rfl) rfl
  · rintro s hs
    refine ev_unfold (fun k => rfl) ?_
    simp only [impl_AllApart.l0]
    rw [List.take_length] at hs
    refine ev_neg (by omega) (Ev.bind (impl_IsHand_ev s (by rw [hs]; exact hf)) (ev_ret (by simp)))
  · rintro s i hi hs ih
    refine ev_unfold (fun k => rfl) ?_
    simp only [impl_AllApart.l0]
    rw [w64next i (by omega), rdss_at l i hi]
    have e : s ++ l[i] = (l.take (i + 1)).flatten := by rw [take_at l i hi, List.flatten_append, ← hs]; simp
    have hle : (s ++ l[i]).length ≤ 1048576000 := by
      rw [e]
      have h1 : l.flatten = (l.take (i + 1)).flatten ++ (l.drop (i + 1)).flatten := by rw [← List.flatten_append, List.take_append_drop]
      rw [h1, List.length_append] at hf
      omega
    rw [List.length_append] at hle
    refine ev_pos (by omega) (ev_pos (by omega) (ev_pos (by omega) (ev_pos (by omega) (ev_done (ih _ e) ?_))))
    rw [List.flatten_cons, List.append_assoc]

theorem impl_copyOf_eq (l : List Int) (hl : l.length ≤ 1048576000) : impl_copyOf.f l = some l := by
  unfold impl_copyOf.f
  simp only [Option.bind_some, List.length_nil, List.nil_append]
  rw [if_pos (by omega)]

theorem impl_copyRows_ev (l : List (List Int)) (hl : l.length ≤ 1048576000) (hr : ∀ r ∈ l, r.length ≤ 1048576000) : Ev (fun k => impl_copyRows.f k l) l := by
  simp only [impl_copyRows.f]
  refine ev_done (ev_loop (fun k (s : List (List Int)) i => impl_copyRows.l0 k s l (l.length : Int) i) l (fun s r => s ++ r) (fun s i => s.length = i) ?_ ?_ [] 0 (by omega) rfl) (by simp)
  · rintro s hs
    refine ev_unfold (fun k => rfl) ?_
    simp only [impl_copyRows.l0]
    exact ev_neg (by omega) (ev_ret (by simp))
  · rintro s i hi hs ih
    refine ev_unfold (fun k => rfl) ?_
    simp only [impl_copyRows.l0]
    rw [w64next i (by omega), rdss_at l i hi]
    refine ev_pos (by omega) (ev_pos (by omega) (ev_pos (by omega) (ev_eq (impl_copyOf_eq _ (hr _ (List.getElem_mem hi))) (ev_pos (by omega) ?_))))
    refine ev_done (ih _ (by simp [hs])) ?_
    simp

theorem impl_NewDeal_ev (h : List (List Int)) (a1 a2 : Int) (hl : h.length ≤ 1048576000) (hr : ∀ r ∈ h, r.length ≤ 1048576000) (hf : totalLen h ≤ 1048576000) :
    Ev (fun k => impl_NewDeal.f k h a1 a2) (newDeal h a1 a2) := by
  obtain ⟨Z, hZ⟩ : ∃ Z : List (List Int) × Int × Int × List Int × List Int × List Int × Int × Bool, Z = ([], 0, 0, [], [], [], 0, false) := ⟨_, rfl⟩
  have hj : ∀ b : Bool, (inR h.length 2 4 = true → (isHand h.flatten && (inR a1 0 ((h.length : Int) - 1) && inR a2 (-1) 3)) = !b) → (b = false → inR h.length 2 4 = true) → (inR h.length 2 4 = false → b = true) →
      Ev (fun k => impl_NewDeal.j0 k h a1 a2 (h.length : Int) b) (newDeal h a1 a2) := by
    intro b h1 h2 h3
    refine ev_unfold (fun k => rfl) ?_
    simp only [impl_NewDeal.j0]
    refine ev_ite (fun hb => ev_ret ?_) (fun hb => ?_)
    · unfold newDeal
      rw [if_neg]
      unfold newOk
      intro hc
      simp only [Bool.and_eq_true] at hc
      have := h1 hc.1
      rw [hc.2.1, hc.2.2.1, hc.2.2.2.1, hb] at this
      cases this
    · rw [Bool.not_eq_true] at hb
      have hin := h2 hb
      have hall := h1 hin
      rw [hb] at hall
      simp only [Bool.and_eq_true, Bool.not_false] at hall
      have hin2 := (inR_iff _ _ _).1 hin
      have h0 : rd_L1 h 0 = lineAt h 0 := rfl
      have e0 : ∀ x : Bool, (h.all fun r => decide (r.length = (lineAt h 0).length)) = x → newDeal h a1 a2 = if x = true then (h, a1, a2, [], List.replicate h.length 0, List.replicate h.length 0, ((lineAt h 0).length : Int), true) else ([], 0, 0, [], [], [], 0, false) := by
        intro x hx
        unfold newDeal newOk
        rw [hin, hall.1, hall.2.1, hall.2.2, hx]
        simp only [Bool.true_and]
      rw [e0 _ rfl]
      refine ev_loop (fun k (_ : Unit) i => impl_NewDeal.l0 k h a1 a2 (h.length : Int) h (h.length : Int) i) h (fun _ r => if (r.all fun r => decide (r.length = (lineAt h 0).length)) = true then (h, a1, a2, [], List.replicate h.length 0, List.replicate h.length 0, ((lineAt h 0).length : Int), true) else ([], 0, 0, [], [], [], 0, false)) (fun _ _ => True) ?_ ?_ () 0 (by omega) trivial
      · rintro s _
        refine ev_unfold (fun k => rfl) ?_
        simp only [impl_NewDeal.l0, h0]
        rw [Int.toNat_natCast]
        refine ev_neg (by omega) (Ev.bind (impl_copyRows_ev h hl hr) (ev_pos (by omega) (ev_pos (by omega) (ev_pos (by omega) (ev_ret (by simp))))))
      · rintro s i hi _ ih
        refine ev_unfold (fun k => rfl) ?_
        simp only [impl_NewDeal.l0, h0]
        rw [w64next i (by omega), rdss_at h i hi, List.all_cons]
        refine ev_pos (by omega) (ev_pos (by omega) (ev_pos (by omega) (ev_pos (by omega) (ev_ite (fun h5 => ev_done (ih () trivial) ?_) (fun h5 => ev_ret ?_)))))
        · rw [decide_eq_true (show h[i].length = (lineAt h 0).length by omega), Bool.true_and]
        · rw [decide_eq_false (show ¬ h[i].length = (lineAt h 0).length by omega), Bool.false_and, if_neg (by simp)]
  simp only [impl_NewDeal.f]
  rw [w64 ((h.length : Int) - 1) (by omega)]
  refine ev_eq (impl_InRange_eq _ _ _) (ev_ite (fun c1 => ?_) (fun c1 => ?_))
  rotate_left
  · rw [Bool.not_eq_true] at c1
    exact hj true (fun e => by rw [c1] at e; cases e) (fun e => by cases e) (fun _ => rfl)
  have no : inR (h.length : Int) 2 4 = false → ∀ b : Bool, b = true := fun e => by rw [c1] at e; cases e
  refine Ev.bind (impl_AllApart_ev h hl (by rw [flatten_total]; exact hf)) (ev_ite (fun c2 => ?_) (fun c2 => ?_))
  rotate_left
  · rw [Bool.not_eq_true] at c2
    exact hj true (fun _ => by rw [c2]; rfl) (fun e => by cases e) (fun _ => rfl)
  refine ev_eq (impl_InRange_eq _ _ _) (ev_ite (fun c3 => ?_) (fun c3 => ?_))
  rotate_left
  · rw [Bool.not_eq_true] at c3
    exact hj true (fun _ => by rw [c2, c3]; rfl) (fun e => by cases e) (fun _ => rfl)
  exact ev_eq (impl_InRange_eq _ _ _) (hj _ (fun _ => by rw [c2, c3, Bool.not_not]; rfl) (fun _ => c1) (fun e => no e _))

theorem laws_markDeal_ev (h : List (List Int)) (a1 a2 : Int) (t w p : List Int) (a6 : Int) (a : Int) (hl : h.length ≤ 1048576000) (hh : totalLen h ≤ 1048576) (ht : t.length ≤ 1048576) (hw : w.length ≤ 1048576) (hp : p.length ≤ 1048576) (ha : 0 ≤ a ∧ a ≤ 1048576) :
    Ev (fun k => laws_markDeal.f k h a1 a2 t w p a6 a) (a + (totalLen h : Int) + (t.length : Int) + (w.length : Int) + (p.length : Int), markRows a h, marks (a + (totalLen h : Int)) t.length, marks (a + (totalLen h : Int) + (t.length : Int)) w.length, marks (a + (totalLen h : Int) + (t.length : Int) + (w.length : Int)) p.length) := by
  simp only [laws_markDeal.f]
  exact Ev.bind (laws_markIntSS_ev h a hl (by omega) (by omega)) (Ev.bind (laws_markIntS_ev t _ (by omega) (by omega)) (Ev.bind (laws_markIntS_ev w _ (by omega) (by omega)) (Ev.bind (laws_markIntS_ev p _ (by omega) (by omega)) (Ev.now _))))

theorem laws_heldIntS_ev (n : Nat) (a : Int) (hn : n ≤ 1073741824) (ha : 0 ≤ a ∧ a ≤ 1073741824) : Ev (fun k => laws_heldIntS.f k (marks a n) a) (a + (n : Int)) := by
  have hl := marks_length a n
  simp only [laws_heldIntS.f]
  refine ev_loop (fun k (s : Int) i => laws_heldIntS.l0 k (marks a n) s i) (marks a n) (fun _ _ => a + (n : Int)) (fun s i => s = a + i) ?_ ?_ a 0 (by omega) (by simp)
  · rintro s h
    refine ev_unfold (fun k => rfl) ?_
    simp only [laws_heldIntS.l0]
    refine ev_neg (by omega) (ev_ret ?_)
    rw [h, hl]
  · rintro s i hi h ih
    refine ev_unfold (fun k => rfl) ?_
    simp only [laws_heldIntS.l0]
    refine ev_pos (by omega) (ev_pos (by omega) ?_)
    rw [w64next i (by omega), rd_at _ i hi, marks_at, w64 (s + 1) (by omega)]
    refine ev_pos h.symm (ih _ (by omega))

theorem laws_heldIntSS_ev (l : List (List Int)) (a : Int) (hl : l.length ≤ 1048576000) (ht : totalLen l ≤ 268435456) (ha : 0 ≤ a ∧ a ≤ 268435456) : Ev (fun k => laws_heldIntSS.f k (markRows a l) a) (a + (totalLen l : Int)) := by
  simp only [laws_heldIntSS.f]
  have hm := markRows_length l a
  refine ev_loopN (fun k (s : Int) i => laws_heldIntSS.l0 k (markRows a l) s i) l.length (fun _ _ => a + (totalLen l : Int)) (fun s i => s = a + (totalLen (l.take i) : Int)) ?_ ?_ a 0 (by omega) (by simp [totalLen])
  · rintro s h
    rw [List.take_length] at h
    refine ev_unfold (fun k => rfl) ?_
    simp only [laws_heldIntSS.l0]
    exact ev_neg (by omega) (ev_ret h)
  · rintro s i hi h ih
    have hrow : rd_L1 (markRows a l) (i : Int) = marks s l[i].length := by
      rw [rdss_at _ i (by omega)]
      have e : markRows a l = markRows a (l.take i ++ [l[i]] ++ l.drop (i + 1)) := by rw [← take_at l i hi, List.take_append_drop]
      have key : ∀ (x y : List (List Int)) (a : Int), markRows a (x ++ y) = markRows a x ++ markRows (a + (totalLen x : Int)) y := by
        intro x
        induction x with
        | nil => intro y a; simp [markRows, totalLen]
        | cons r t ih => intro y a; show markRows a (r :: (t ++ y)) = _; simp only [markRows]; rw [ih, totalLen_cons, List.cons_append, show a + (r.length : Int) + (totalLen t : Int) = a + ((r.length + totalLen t : Nat) : Int) by omega]
      have e2 : markRows a l = markRows a (l.take i) ++ (marks s l[i].length :: markRows (a + (totalLen (l.take i ++ [l[i]]) : Int)) (l.drop (i + 1))) := by
        rw [e, key, markRows_snoc, List.append_assoc, h]
        rfl
      have hmi : (markRows a (l.take i)).length = i := by rw [markRows_length, List.length_take]; omega
      have : (markRows a l)[i]? = some (marks s l[i].length) := by
        rw [e2, List.getElem?_append_right (by omega), hmi, Nat.sub_self]
        rfl
      rw [List.getElem?_eq_getElem (by omega)] at this
      exact Option.some.inj this
    have hsp := totalLen_split l (i + 1)
    have htk : totalLen (l.take (i + 1)) = totalLen (l.take i) + l[i].length := by rw [take_at l i hi, totalLen_snoc]
    refine ev_unfold (fun k => rfl) ?_
    simp only [laws_heldIntSS.l0]
    rw [hrow, w64next i (by omega)]
    refine ev_pos (by omega) (ev_pos (by omega) (Ev.bind (laws_heldIntS_ev l[i].length s (by omega) (by omega)) (ev_neg (by omega) (ih _ ?_))))
    rw [htk, h]
    omega

theorem laws_heldDeal_ev (h : List (List Int)) (a1 a2 : Int) (nt nw np : Nat) (a6 : Int) (a : Int) (hl : h.length ≤ 1048576000) (hh : totalLen h ≤ 1048576) (ht : nt ≤ 1048576) (hw : nw ≤ 1048576) (hp : np ≤ 1048576) (ha : 0 ≤ a ∧ a ≤ 1048576) :
    Ev (fun k => laws_heldDeal.f k (markRows a h) a1 a2 (marks (a + (totalLen h : Int)) nt) (marks (a + (totalLen h : Int) + (nt : Int)) nw) (marks (a + (totalLen h : Int) + (nt : Int) + (nw : Int)) np) a6 a) (a + (totalLen h : Int) + (nt : Int) + (nw : Int) + (np : Int)) := by
  simp only [laws_heldDeal.f]
  exact Ev.bind (laws_heldIntSS_ev h a hl (by omega) (by omega)) (ev_neg (by omega) (Ev.bind (laws_heldIntS_ev nt _ (by omega) (by omega)) (ev_neg (by omega) (Ev.bind (laws_heldIntS_ev nw _ (by omega) (by omega)) (ev_neg (by omega) (Ev.bind (laws_heldIntS_ev np _ (by omega) (by omega)) (ev_neg (by omega) (Ev.now _))))))))

set_option maxHeartbeats 8000000 in
set_option maxRecDepth 100000 in
theorem FnExactNewDeal (A1 : Option Addr) (c1 : Nat) (l1 : List (List Int)) (a b : Int) (w : World) (hr1 : Kd.C (Kd.slice 3 (Kd.int .i64)) w A1 l1.length l1) (hc1 : l1.length ≤ c1)
    (hl1 : l1.length ≤ maxLen) (hn1 : ∀ r ∈ l1, r.length ≤ maxLen) (_ : ∀ r ∈ l1, ∀ x ∈ r, (Lit.int .i64 x).wf = true) (_ : (Lit.int .i64 a).wf = true) (_ : (Lit.int .i64 b).wf = true) :
    Calls Try.prog 8 #[.slice A1 l1.length c1, .int .i64 a, .int .i64 b] w fun e w' => e = .returned (.bool true) ∧ Below w.heap.size w w' := by
  have HR1 := Aside0.mk hr1
  have HC1 := Aside0.mk hc1
  obtain ⟨k1, e1⟩ := (laws_szIntSS_ev l1 1048576 (by omega) hl1 hn1).rounds
  clear hr1 hc1
  have HB := Aside0.mk (Below.refl w.heap.size w)
  obtain ⟨z, hz⟩ : ∃ z, z = bLeft 1048576 (l1.length + totalLen l1) := ⟨_, rfl⟩
  rw [← hz] at e1
  have E1 := Aside0.mk e1
  clear e1
  by_cases g2 : z < 0
  · have g2a : decide (z < 0) = true := decide_eq_true g2
    clear g2 hz hl1 hn1
    go_enter Try.func8, Try.ntmps8
    go_wp2_with (first | (go_at_call 46; (with_reducible refine (laws_szIntSS.calls k1 _ _ l1 1048576 z _ HR1.out HC1.out E1.out).mono ?_); rintro e w1_ ⟨rfl, hd⟩; have hb := hd.below; have nb_ := Aside0.mk (below_step HB.out hb); clear HB hb hd; have HB := nb_; clear nb_))
    go_ret
    exact ⟨rfl, HB.out⟩
  have g2a : decide (z < 0) = false := decide_eq_false g2
  rw [hz] at g2
  have hsz := (bLeft_some g2).1
  clear hz
  have ht : ∀ r ∈ l1, r.length ≤ 1048576 := fun r hr => by have := len_le_total hr; omega
  obtain ⟨k2, e2⟩ := (laws_toIntSS_ev l1 (by omega) (fun r hr => by have := ht r hr; omega)).rounds
  obtain ⟨Y, hY⟩ : ∃ Y, Y = newDeal l1 a b := ⟨_, rfl⟩
  obtain ⟨k3, e3⟩ := (spec_NewDeal_ev l1 a b (by omega) (fun r hr => by have := ht r hr; omega) (by omega)).rounds
  obtain ⟨k4, e4⟩ := (impl_NewDeal_ev l1 a b (by omega) (fun r hr => by have := ht r hr; omega) (by omega)).rounds
  rw [← hY] at e3 e4
  have hYt : totalLen Y.1 ≤ 1048576 ∧ Y.1.length ≤ 1048576 ∧ (∀ r ∈ Y.1, r.length ≤ 1048576) ∧ Y.2.2.2.1.length ≤ 1048576 ∧ Y.2.2.2.2.1.length ≤ 1048576 ∧ Y.2.2.2.2.2.1.length ≤ 1048576 := by
    rw [hY]
    unfold newDeal
    split
    · exact ⟨by simp only; omega, by simp only; omega, ht, by simp, by simp only [List.length_replicate]; omega, by simp only [List.length_replicate]; omega⟩
    · exact ⟨by simp [totalLen], by simp, by simp, by simp, by simp, by simp⟩
  clear hY
  obtain ⟨Y, y1, y2, T, V, P, y6, b_⟩ := Y
  simp only at hYt
  obtain ⟨q1, q2, q3, q4, q5, q6⟩ := hYt
  obtain ⟨k5, e5⟩ := (laws_eqDeal_ev Y y1 y2 T V P y6 (by omega) (fun r hr => by have := q3 r hr; omega) (by omega) (by omega) (by omega)).rounds
  obtain ⟨k6, e6⟩ := (laws_eqIntSS_ev l1 l1 (by omega) (fun r hr => by have := ht r hr; omega)).rounds
  rw [decide_eq_true rfl] at e6
  obtain ⟨k7, e7⟩ := (laws_markIntSS_ev l1 1 (by omega) (by omega) (by omega)).rounds
  obtain ⟨k8, e8⟩ := (laws_markDeal_ev Y y1 y2 T V P y6 1 (by omega) q1 q4 q5 q6 (by omega)).rounds
  obtain ⟨k9, e9⟩ := (laws_heldDeal_ev Y y1 y2 T.length V.length P.length y6 1 (by omega) q1 q4 q5 q6 (by omega)).rounds
  obtain ⟨t1, ht1⟩ : ∃ t1, t1 = 1 + (totalLen l1 : Int) := ⟨_, rfl⟩
  rw [← ht1] at e7
  obtain ⟨X1, hX1⟩ : ∃ X, X = markRows 1 l1 := ⟨_, rfl⟩
  rw [← hX1] at e7
  obtain ⟨m, hm⟩ : ∃ m, m = 1 + (totalLen Y : Int) + (T.length : Int) + (V.length : Int) + (P.length : Int) := ⟨_, rfl⟩
  rw [← hm] at e8 e9
  obtain ⟨M, hM⟩ : ∃ M, M = markRows 1 Y := ⟨_, rfl⟩
  obtain ⟨N3, hN3⟩ : ∃ N, N = marks (1 + (totalLen Y : Int)) T.length := ⟨_, rfl⟩
  obtain ⟨N4, hN4⟩ : ∃ N, N = marks (1 + (totalLen Y : Int) + (T.length : Int)) V.length := ⟨_, rfl⟩
  obtain ⟨N5, hN5⟩ : ∃ N, N = marks (1 + (totalLen Y : Int) + (T.length : Int) + (V.length : Int)) P.length := ⟨_, rfl⟩
  rw [← hM, ← hN3, ← hN4, ← hN5] at e8 e9
  have g3 : decide (t1 < 0) = false := decide_eq_false (by omega)
  have g4 : decide (m < 0) = false := decide_eq_false (by omega)
  have E2 := Aside0.mk e2
  have E3 := Aside0.mk e3
  have E4 := Aside0.mk e4
  have E5 := Aside0.mk e5
  have E6 := Aside0.mk e6
  have E7 := Aside0.mk e7
  have E8 := Aside0.mk e8
  have E9 := Aside0.mk e9
  clear e2 e3 e4 e5 e6 e7 e8 e9 ht1 hX1 hm hM hN3 hN4 hN5 q1 q2 q3 q4 q5 q6 ht hsz g2 hl1 hn1
  go_enter Try.func8, Try.ntmps8
  go_wp2_with (first | (go_at_call 46; (with_reducible refine (laws_szIntSS.calls k1 _ _ l1 1048576 z _ (Kd.C_below HR1.out HB.out) HC1.out E1.out).mono ?_); rintro e w1_ ⟨rfl, hd⟩; have hb := hd.below; have s1_ := Aside0.mk hb.size; replace HB := Aside0.mk (below_step HB.out hb); (try clear hb); (try clear hd)))
  go_wp2_with (first | (go_at_call 48; (with_reducible refine (laws_toIntSS.calls k2 _ _ l1 l1 _ (Kd.C_below HR1.out HB.out) HC1.out E2.out).mono ?_); rintro e w2_ ⟨v2_0, rfl, ho0, hb⟩; obtain ⟨A2_0, c2_0, rfl⟩ := Kd.S_slice ho0; have s2_ := Aside0.mk hb.size; have Fa := Aside0.mk (show Kd.S (Kd.slice 3 (Kd.int .i64)) 24 w2_ w.heap.size (fun k_ => (w1_.heap.size ≤ k_ ∧ k_ < w2_.heap.size)) (.slice A2_0 l1.length c2_0) l1 from Kd.S_lower (Kd.S_mono (Kd.S_bound ho0) (fun k_ hk => (⟨hk.2.1, hk.2.2.1⟩ : _ ∧ _))) (below_size HB.out)); replace HB := Aside0.mk (below_step HB.out hb); (try clear hb); (try clear ho0)))
  go_wp2_with (first | (go_at_call 47; (with_reducible refine (spec_NewDeal.calls k3 _ _ l1 a b Y y1 y2 T V P y6 b_ _ (Kd.S_reads' Fa.out).2.2 (Kd.S_reads' Fa.out).2.1 E3.out).mono ?_); rintro e w3_ ⟨v3_0, v3_3, v3_4, v3_5, rfl, ho0, ho3, ho4, ho5, hb⟩; obtain ⟨A3_0, c3_0, rfl⟩ := Kd.S_slice ho0; obtain ⟨A3_3, c3_3, rfl⟩ := Kd.R_slice ho3; obtain ⟨A3_4, c3_4, rfl⟩ := Kd.R_slice ho4; obtain ⟨A3_5, c3_5, rfl⟩ := Kd.R_slice ho5; have s3_ := Aside0.mk hb.size; replace Fa := Aside0.mk (Kd.S_below Fa.out hb); have Fw0 := Aside0.mk (show Kd.S (Kd.slice 3 (Kd.int .i64)) 24 w3_ w.heap.size (fun k_ => (w2_.heap.size ≤ k_ ∧ k_ < w3_.heap.size ∧ some k_ ≠ ((.slice A3_3 T.length c3_3) : Value).ownBlock ∧ some k_ ≠ ((.slice A3_4 V.length c3_4) : Value).ownBlock ∧ some k_ ≠ ((.slice A3_5 P.length c3_5) : Value).ownBlock)) (.slice A3_0 Y.length c3_0) Y from Kd.S_lower (Kd.S_mono (Kd.S_bound ho0) (fun k_ hk => (⟨hk.2.1, hk.2.2.1, hk.1⟩ : _ ∧ _ ∧ _))) (below_size HB.out)); have Fw3 := Aside0.mk (show Kd.R (Kd.int .i64) 3 w3_ w.heap.size (fun k_ => (w2_.heap.size ≤ k_ ∧ k_ < w3_.heap.size ∧ some k_ = ((.slice A3_3 T.length c3_3) : Value).ownBlock ∧ some k_ ≠ ((.slice A3_4 V.length c3_4) : Value).ownBlock ∧ some k_ ≠ ((.slice A3_5 P.length c3_5) : Value).ownBlock)) (.slice A3_3 T.length c3_3) T from Kd.R_lower (Kd.R_mono (Kd.R_bound (Kd.R_mono (Kd.R_tight rfl ho3) (fun k_ hk => (⟨hk, ho3.1 k_ hk.symm⟩ : _ ∧ _)))) (fun k_ hk => (⟨hk.2.1, hk.2.2.1, hk.1.1, hk.1.2.1, hk.1.2.2⟩ : _ ∧ _ ∧ _))) (below_size HB.out)); have Fw4 := Aside0.mk (show Kd.R (Kd.int .i64) 3 w3_ w.heap.size (fun k_ => (w2_.heap.size ≤ k_ ∧ k_ < w3_.heap.size ∧ some k_ = ((.slice A3_4 V.length c3_4) : Value).ownBlock ∧ some k_ ≠ ((.slice A3_5 P.length c3_5) : Value).ownBlock)) (.slice A3_4 V.length c3_4) V from Kd.R_lower (Kd.R_mono (Kd.R_bound (Kd.R_mono (Kd.R_tight rfl ho4) (fun k_ hk => (⟨hk, ho4.1 k_ hk.symm⟩ : _ ∧ _)))) (fun k_ hk => (⟨hk.2.1, hk.2.2.1, hk.1.1, hk.1.2.2⟩ : _ ∧ _ ∧ _))) (below_size HB.out)); have Fw5 := Aside0.mk (show Kd.R (Kd.int .i64) 3 w3_ w.heap.size (fun k_ => (w2_.heap.size ≤ k_ ∧ k_ < w3_.heap.size ∧ some k_ = ((.slice A3_5 P.length c3_5) : Value).ownBlock)) (.slice A3_5 P.length c3_5) P from Kd.R_lower (Kd.R_mono (Kd.R_bound (Kd.R_mono (Kd.R_tight rfl ho5) (fun k_ hk => (⟨hk, ho5.1 k_ hk.symm⟩ : _ ∧ _)))) (fun k_ hk => (⟨hk.2.1, hk.2.2.1, hk.1.1⟩ : _ ∧ _ ∧ _))) (below_size HB.out)); replace HB := Aside0.mk (below_step HB.out hb); (try clear hb); (try clear ho0); (try clear ho3); (try clear ho4); (try clear ho5)))
  go_wp2_with (first | (go_at_call 48; refine Go.Proofs.Ytecjbogconeilaa.Lib.boxed_calls ?_; intro w4_ hbx_ hb hlt_; have s4_ := Aside0.mk hlt_; replace Fa := Aside0.mk (Kd.S_below Fa.out hb); replace Fw0 := Aside0.mk (Kd.S_below Fw0.out hb); replace Fw3 := Aside0.mk (Kd.R_below Fw3.out hb); replace Fw4 := Aside0.mk (Kd.R_below Fw4.out hb); replace Fw5 := Aside0.mk (Kd.R_below Fw5.out hb); replace HB := Aside0.mk (below_step HB.out hb); have BKW := Aside0.mk (show w4_.heap[w3_.heap.size]? = some (.cells #[.slice A3_0 Y.length c3_0, .int .i64 y1, .int .i64 y2, .slice A3_3 T.length c3_3, .slice A3_4 V.length c3_4, .slice A3_5 P.length c3_5, .int .i64 y6] 42 (0, 0)) from hbx_); clear hb hbx_ hlt_; (with_reducible refine (laws_toIntSS.calls k2 _ _ l1 l1 _ (Kd.C_below HR1.out HB.out) HC1.out E2.out).mono ?_); rintro e w5_ ⟨v5_0, rfl, ho0, hb⟩; obtain ⟨A5_0, c5_0, rfl⟩ := Kd.S_slice ho0; have s5_ := Aside0.mk hb.size; replace BKW := Aside0.mk (blk_below BKW.out hb); replace Fa := Aside0.mk (Kd.S_below Fa.out hb); replace Fw0 := Aside0.mk (Kd.S_below Fw0.out hb); replace Fw3 := Aside0.mk (Kd.R_below Fw3.out hb); replace Fw4 := Aside0.mk (Kd.R_below Fw4.out hb); replace Fw5 := Aside0.mk (Kd.R_below Fw5.out hb); have Fx := Aside0.mk (show Kd.S (Kd.slice 3 (Kd.int .i64)) 24 w5_ w.heap.size (fun k_ => (w4_.heap.size ≤ k_ ∧ k_ < w5_.heap.size)) (.slice A5_0 l1.length c5_0) l1 from Kd.S_lower (Kd.S_mono (Kd.S_bound ho0) (fun k_ hk => (⟨hk.2.1, hk.2.2.1⟩ : _ ∧ _))) (below_size HB.out)); replace HB := Aside0.mk (below_step HB.out hb); (try clear hb); (try clear ho0)))
  go_wp2_with (first | (go_at_call 49; (with_reducible refine (impl_NewDeal.calls k4 _ _ l1 a b Y y1 y2 T V P y6 b_ _ (Kd.S_reads' Fx.out).2.2 (Kd.S_reads' Fx.out).2.1 E4.out).mono ?_); rintro e w6_ ⟨v6_0, v6_3, v6_4, v6_5, rfl, ho0, ho3, ho4, ho5, hb⟩; obtain ⟨A6_0, c6_0, rfl⟩ := Kd.S_slice ho0; obtain ⟨A6_3, c6_3, rfl⟩ := Kd.R_slice ho3; obtain ⟨A6_4, c6_4, rfl⟩ := Kd.R_slice ho4; obtain ⟨A6_5, c6_5, rfl⟩ := Kd.R_slice ho5; have s6_ := Aside0.mk hb.size; replace BKW := Aside0.mk (blk_below BKW.out hb); replace Fa := Aside0.mk (Kd.S_below Fa.out hb); replace Fw0 := Aside0.mk (Kd.S_below Fw0.out hb); replace Fw3 := Aside0.mk (Kd.R_below Fw3.out hb); replace Fw4 := Aside0.mk (Kd.R_below Fw4.out hb); replace Fw5 := Aside0.mk (Kd.R_below Fw5.out hb); replace Fx := Aside0.mk (Kd.S_below Fx.out hb); have Fg0 := Aside0.mk (show Kd.S (Kd.slice 3 (Kd.int .i64)) 24 w6_ w.heap.size (fun k_ => (w5_.heap.size ≤ k_ ∧ k_ < w6_.heap.size ∧ some k_ ≠ ((.slice A6_3 T.length c6_3) : Value).ownBlock ∧ some k_ ≠ ((.slice A6_4 V.length c6_4) : Value).ownBlock ∧ some k_ ≠ ((.slice A6_5 P.length c6_5) : Value).ownBlock)) (.slice A6_0 Y.length c6_0) Y from Kd.S_lower (Kd.S_mono (Kd.S_bound ho0) (fun k_ hk => (⟨hk.2.1, hk.2.2.1, hk.1⟩ : _ ∧ _ ∧ _))) (below_size HB.out)); have Fg3 := Aside0.mk (show Kd.R (Kd.int .i64) 3 w6_ w.heap.size (fun k_ => (w5_.heap.size ≤ k_ ∧ k_ < w6_.heap.size ∧ some k_ = ((.slice A6_3 T.length c6_3) : Value).ownBlock ∧ some k_ ≠ ((.slice A6_4 V.length c6_4) : Value).ownBlock ∧ some k_ ≠ ((.slice A6_5 P.length c6_5) : Value).ownBlock)) (.slice A6_3 T.length c6_3) T from Kd.R_lower (Kd.R_mono (Kd.R_bound (Kd.R_mono (Kd.R_tight rfl ho3) (fun k_ hk => (⟨hk, ho3.1 k_ hk.symm⟩ : _ ∧ _)))) (fun k_ hk => (⟨hk.2.1, hk.2.2.1, hk.1.1, hk.1.2.1, hk.1.2.2⟩ : _ ∧ _ ∧ _))) (below_size HB.out)); have Fg4 := Aside0.mk (show Kd.R (Kd.int .i64) 3 w6_ w.heap.size (fun k_ => (w5_.heap.size ≤ k_ ∧ k_ < w6_.heap.size ∧ some k_ = ((.slice A6_4 V.length c6_4) : Value).ownBlock ∧ some k_ ≠ ((.slice A6_5 P.length c6_5) : Value).ownBlock)) (.slice A6_4 V.length c6_4) V from Kd.R_lower (Kd.R_mono (Kd.R_bound (Kd.R_mono (Kd.R_tight rfl ho4) (fun k_ hk => (⟨hk, ho4.1 k_ hk.symm⟩ : _ ∧ _)))) (fun k_ hk => (⟨hk.2.1, hk.2.2.1, hk.1.1, hk.1.2.2⟩ : _ ∧ _ ∧ _))) (below_size HB.out)); have Fg5 := Aside0.mk (show Kd.R (Kd.int .i64) 3 w6_ w.heap.size (fun k_ => (w5_.heap.size ≤ k_ ∧ k_ < w6_.heap.size ∧ some k_ = ((.slice A6_5 P.length c6_5) : Value).ownBlock)) (.slice A6_5 P.length c6_5) P from Kd.R_lower (Kd.R_mono (Kd.R_bound (Kd.R_mono (Kd.R_tight rfl ho5) (fun k_ hk => (⟨hk, ho5.1 k_ hk.symm⟩ : _ ∧ _)))) (fun k_ hk => (⟨hk.2.1, hk.2.2.1, hk.1.1⟩ : _ ∧ _ ∧ _))) (below_size HB.out)); replace HB := Aside0.mk (below_step HB.out hb); (try clear hb); (try clear ho0); (try clear ho3); (try clear ho4); (try clear ho5); (try clear hczW_0); have hczW_0 : w6_.cell? ⟨w3_.heap.size, 0, none⟩ = some (.slice A3_0 Y.length c3_0) := (blk_cell BKW.out 0).trans rfl; (try clear hczW_1); have hczW_1 : w6_.cell? ⟨w3_.heap.size, 1, none⟩ = some (.int .i64 y1) := (blk_cell BKW.out 1).trans rfl; (try clear hczW_2); have hczW_2 : w6_.cell? ⟨w3_.heap.size, 2, none⟩ = some (.int .i64 y2) := (blk_cell BKW.out 2).trans rfl; (try clear hczW_3); have hczW_3 : w6_.cell? ⟨w3_.heap.size, 3, none⟩ = some (.slice A3_3 T.length c3_3) := (blk_cell BKW.out 3).trans rfl; (try clear hczW_4); have hczW_4 : w6_.cell? ⟨w3_.heap.size, 4, none⟩ = some (.slice A3_4 V.length c3_4) := (blk_cell BKW.out 4).trans rfl; (try clear hczW_5); have hczW_5 : w6_.cell? ⟨w3_.heap.size, 5, none⟩ = some (.slice A3_5 P.length c3_5) := (blk_cell BKW.out 5).trans rfl; (try clear hczW_6); have hczW_6 : w6_.cell? ⟨w3_.heap.size, 6, none⟩ = some (.int .i64 y6) := (blk_cell BKW.out 6).trans rfl; have hyaW_0 := fun (o_ : Obj) => (show (w6_.alloc o_).cell? ⟨w3_.heap.size, 0, none⟩ = some (.slice A3_0 Y.length c3_0) from ((below_alloc (Below.refl w6_.heap.size w6_) o_).cell (World.block_lt_of_cell? _ _ hczW_0)).trans hczW_0); have hyaW_1 := fun (o_ : Obj) => (show (w6_.alloc o_).cell? ⟨w3_.heap.size, 1, none⟩ = some (.int .i64 y1) from ((below_alloc (Below.refl w6_.heap.size w6_) o_).cell (World.block_lt_of_cell? _ _ hczW_1)).trans hczW_1); have hyaW_2 := fun (o_ : Obj) => (show (w6_.alloc o_).cell? ⟨w3_.heap.size, 2, none⟩ = some (.int .i64 y2) from ((below_alloc (Below.refl w6_.heap.size w6_) o_).cell (World.block_lt_of_cell? _ _ hczW_2)).trans hczW_2); have hyaW_3 := fun (o_ : Obj) => (show (w6_.alloc o_).cell? ⟨w3_.heap.size, 3, none⟩ = some (.slice A3_3 T.length c3_3) from ((below_alloc (Below.refl w6_.heap.size w6_) o_).cell (World.block_lt_of_cell? _ _ hczW_3)).trans hczW_3); have hyaW_4 := fun (o_ : Obj) => (show (w6_.alloc o_).cell? ⟨w3_.heap.size, 4, none⟩ = some (.slice A3_4 V.length c3_4) from ((below_alloc (Below.refl w6_.heap.size w6_) o_).cell (World.block_lt_of_cell? _ _ hczW_4)).trans hczW_4); have hyaW_5 := fun (o_ : Obj) => (show (w6_.alloc o_).cell? ⟨w3_.heap.size, 5, none⟩ = some (.slice A3_5 P.length c3_5) from ((below_alloc (Below.refl w6_.heap.size w6_) o_).cell (World.block_lt_of_cell? _ _ hczW_5)).trans hczW_5); have hyaW_6 := fun (o_ : Obj) => (show (w6_.alloc o_).cell? ⟨w3_.heap.size, 6, none⟩ = some (.int .i64 y6) from ((below_alloc (Below.refl w6_.heap.size w6_) o_).cell (World.block_lt_of_cell? _ _ hczW_6)).trans hczW_6)))
  go_wp2_with (first | (go_at_call 41; refine Go.Proofs.Ytecjbogconeilaa.Lib.boxed_calls ?_; intro w7_ hbx_ hb hlt_; have s7_ := Aside0.mk hlt_; replace BKW := Aside0.mk (blk_below BKW.out hb); replace Fa := Aside0.mk (Kd.S_below Fa.out hb); replace Fw0 := Aside0.mk (Kd.S_below Fw0.out hb); replace Fw3 := Aside0.mk (Kd.R_below Fw3.out hb); replace Fw4 := Aside0.mk (Kd.R_below Fw4.out hb); replace Fw5 := Aside0.mk (Kd.R_below Fw5.out hb); replace Fx := Aside0.mk (Kd.S_below Fx.out hb); replace Fg0 := Aside0.mk (Kd.S_below Fg0.out hb); replace Fg3 := Aside0.mk (Kd.R_below Fg3.out hb); replace Fg4 := Aside0.mk (Kd.R_below Fg4.out hb); replace Fg5 := Aside0.mk (Kd.R_below Fg5.out hb); replace HB := Aside0.mk (below_step HB.out hb); have BKG := Aside0.mk (show w7_.heap[w6_.heap.size]? = some (.cells #[.slice A6_0 Y.length c6_0, .int .i64 y1, .int .i64 y2, .slice A6_3 T.length c6_3, .slice A6_4 V.length c6_4, .slice A6_5 P.length c6_5, .int .i64 y6] 42 (0, 0)) from hbx_); clear hb hbx_ hlt_; (with_reducible refine (laws_eqDeal.calls k5 _ _ Y y1 y2 _ _ T _ _ V _ _ P y6 _ _ Y y1 y2 _ _ T _ _ V _ _ P y6 true _ (Kd.S_reads' Fg0.out).2.2 (Kd.S_reads' Fg0.out).2.1 (Kd.R_reads' Fg3.out).2.2 (Kd.R_reads' Fg3.out).2.1 (Kd.R_reads' Fg4.out).2.2 (Kd.R_reads' Fg4.out).2.1 (Kd.R_reads' Fg5.out).2.2 (Kd.R_reads' Fg5.out).2.1 (Kd.S_reads' Fw0.out).2.2 (Kd.S_reads' Fw0.out).2.1 (Kd.R_reads' Fw3.out).2.2 (Kd.R_reads' Fw3.out).2.1 (Kd.R_reads' Fw4.out).2.2 (Kd.R_reads' Fw4.out).2.1 (Kd.R_reads' Fw5.out).2.2 (Kd.R_reads' Fw5.out).2.1 E5.out).mono ?_); rintro e w8_ ⟨rfl, hb⟩; have s8_ := Aside0.mk hb.size; replace BKW := Aside0.mk (blk_below BKW.out hb); replace BKG := Aside0.mk (blk_below BKG.out hb); replace Fa := Aside0.mk (Kd.S_below Fa.out hb); replace Fw0 := Aside0.mk (Kd.S_below Fw0.out hb); replace Fw3 := Aside0.mk (Kd.R_below Fw3.out hb); replace Fw4 := Aside0.mk (Kd.R_below Fw4.out hb); replace Fw5 := Aside0.mk (Kd.R_below Fw5.out hb); replace Fx := Aside0.mk (Kd.S_below Fx.out hb); replace Fg0 := Aside0.mk (Kd.S_below Fg0.out hb); replace Fg3 := Aside0.mk (Kd.R_below Fg3.out hb); replace Fg4 := Aside0.mk (Kd.R_below Fg4.out hb); replace Fg5 := Aside0.mk (Kd.R_below Fg5.out hb); replace HB := Aside0.mk (below_step HB.out hb); (try clear hb)))
  go_wp2_with (first | (go_at_call 48; (with_reducible refine (laws_toIntSS.calls k2 _ _ l1 l1 _ (Kd.C_below HR1.out HB.out) HC1.out E2.out).mono ?_); rintro e w9_ ⟨v9_0, rfl, ho0, hb⟩; obtain ⟨A9_0, c9_0, rfl⟩ := Kd.S_slice ho0; have s9_ := Aside0.mk hb.size; replace BKW := Aside0.mk (blk_below BKW.out hb); replace BKG := Aside0.mk (blk_below BKG.out hb); replace Fa := Aside0.mk (Kd.S_below Fa.out hb); replace Fw0 := Aside0.mk (Kd.S_below Fw0.out hb); replace Fw3 := Aside0.mk (Kd.R_below Fw3.out hb); replace Fw4 := Aside0.mk (Kd.R_below Fw4.out hb); replace Fw5 := Aside0.mk (Kd.R_below Fw5.out hb); replace Fx := Aside0.mk (Kd.S_below Fx.out hb); replace Fg0 := Aside0.mk (Kd.S_below Fg0.out hb); replace Fg3 := Aside0.mk (Kd.R_below Fg3.out hb); replace Fg4 := Aside0.mk (Kd.R_below Fg4.out hb); replace Fg5 := Aside0.mk (Kd.R_below Fg5.out hb); have Fc := Aside0.mk (show Kd.S (Kd.slice 3 (Kd.int .i64)) 24 w9_ w.heap.size (fun k_ => (w8_.heap.size ≤ k_ ∧ k_ < w9_.heap.size)) (.slice A9_0 l1.length c9_0) l1 from Kd.S_lower (Kd.S_mono (Kd.S_bound ho0) (fun k_ hk => (⟨hk.2.1, hk.2.2.1⟩ : _ ∧ _))) (below_size HB.out)); replace HB := Aside0.mk (below_step HB.out hb); (try clear hb); (try clear ho0)))
  go_wp2_with (first | (go_at_call 32; (with_reducible refine (laws_eqIntSS.calls k6 _ _ l1 _ _ l1 true _ (Kd.S_reads' Fx.out).2.2 (Kd.S_reads' Fx.out).2.1 (Kd.S_reads' Fc.out).2.2 (Kd.S_reads' Fc.out).2.1 E6.out).mono ?_); rintro e w10_ ⟨rfl, hd⟩; have hb := hd.below; have s10_ := Aside0.mk hb.size; replace BKW := Aside0.mk (blk_below BKW.out hb); replace BKG := Aside0.mk (blk_below BKG.out hb); replace Fa := Aside0.mk (Kd.S_below Fa.out hb); replace Fw0 := Aside0.mk (Kd.S_below Fw0.out hb); replace Fw3 := Aside0.mk (Kd.R_below Fw3.out hb); replace Fw4 := Aside0.mk (Kd.R_below Fw4.out hb); replace Fw5 := Aside0.mk (Kd.R_below Fw5.out hb); replace Fx := Aside0.mk (Kd.S_below Fx.out hb); replace Fg0 := Aside0.mk (Kd.S_below Fg0.out hb); replace Fg3 := Aside0.mk (Kd.R_below Fg3.out hb); replace Fg4 := Aside0.mk (Kd.R_below Fg4.out hb); replace Fg5 := Aside0.mk (Kd.R_below Fg5.out hb); replace Fc := Aside0.mk (Kd.S_below Fc.out hb); replace HB := Aside0.mk (below_step HB.out hb); (try clear hb); (try clear hd)))
  clear Fa Fc
  go_wp2_with (first | (go_at_call 35; (with_reducible refine (laws_markIntSS.calls k7 (fun k_ => (w4_.heap.size ≤ k_ ∧ k_ < w5_.heap.size)) _ l1 1 t1 X1 w _ HB.out Fx.out E7.out).mono ?_); rintro e w11_ ⟨rfl, ho, hb, hk⟩; have s11_ := Aside0.mk hk.1; replace BKW := Aside0.mk (blk_kept BKW.out hk (fun h2_ => by have := s1_.out; have := s2_.out; have := s3_.out; have := s4_.out; have := s5_.out; have := s6_.out; have := s7_.out; have := s8_.out; have := s9_.out; have := s10_.out; omega)); replace BKG := Aside0.mk (blk_kept BKG.out hk (fun h2_ => by have := s1_.out; have := s2_.out; have := s3_.out; have := s4_.out; have := s5_.out; have := s6_.out; have := s7_.out; have := s8_.out; have := s9_.out; have := s10_.out; omega)); replace Fw0 := Aside0.mk (Kd.S_kept Fw0.out hk (fun k_ (h1_ : (w2_.heap.size ≤ k_ ∧ k_ < w3_.heap.size ∧ some k_ ≠ ((.slice A3_3 T.length c3_3) : Value).ownBlock ∧ some k_ ≠ ((.slice A3_4 V.length c3_4) : Value).ownBlock ∧ some k_ ≠ ((.slice A3_5 P.length c3_5) : Value).ownBlock)) (h2_ : (w4_.heap.size ≤ k_ ∧ k_ < w5_.heap.size)) => by have := s1_.out; have := s2_.out; have := s3_.out; have := s4_.out; have := s5_.out; have := s6_.out; have := s7_.out; have := s8_.out; have := s9_.out; have := s10_.out; (first | omega | exact h2_.2.2 h1_.2.2 | exact h1_.2.2 h2_.2.2))); replace Fw3 := Aside0.mk (Kd.R_kept Fw3.out hk (fun k_ (h1_ : (w2_.heap.size ≤ k_ ∧ k_ < w3_.heap.size ∧ some k_ = ((.slice A3_3 T.length c3_3) : Value).ownBlock ∧ some k_ ≠ ((.slice A3_4 V.length c3_4) : Value).ownBlock ∧ some k_ ≠ ((.slice A3_5 P.length c3_5) : Value).ownBlock)) (h2_ : (w4_.heap.size ≤ k_ ∧ k_ < w5_.heap.size)) => by have := s1_.out; have := s2_.out; have := s3_.out; have := s4_.out; have := s5_.out; have := s6_.out; have := s7_.out; have := s8_.out; have := s9_.out; have := s10_.out; (first | omega | exact h2_.2.2 h1_.2.2 | exact h1_.2.2 h2_.2.2))); replace Fw4 := Aside0.mk (Kd.R_kept Fw4.out hk (fun k_ (h1_ : (w2_.heap.size ≤ k_ ∧ k_ < w3_.heap.size ∧ some k_ = ((.slice A3_4 V.length c3_4) : Value).ownBlock ∧ some k_ ≠ ((.slice A3_5 P.length c3_5) : Value).ownBlock)) (h2_ : (w4_.heap.size ≤ k_ ∧ k_ < w5_.heap.size)) => by have := s1_.out; have := s2_.out; have := s3_.out; have := s4_.out; have := s5_.out; have := s6_.out; have := s7_.out; have := s8_.out; have := s9_.out; have := s10_.out; (first | omega | exact h2_.2.2 h1_.2.2 | exact h1_.2.2 h2_.2.2))); replace Fw5 := Aside0.mk (Kd.R_kept Fw5.out hk (fun k_ (h1_ : (w2_.heap.size ≤ k_ ∧ k_ < w3_.heap.size ∧ some k_ = ((.slice A3_5 P.length c3_5) : Value).ownBlock)) (h2_ : (w4_.heap.size ≤ k_ ∧ k_ < w5_.heap.size)) => by have := s1_.out; have := s2_.out; have := s3_.out; have := s4_.out; have := s5_.out; have := s6_.out; have := s7_.out; have := s8_.out; have := s9_.out; have := s10_.out; (first | omega | exact h2_.2.2 h1_.2.2 | exact h1_.2.2 h2_.2.2))); replace Fg0 := Aside0.mk (Kd.S_kept Fg0.out hk (fun k_ (h1_ : (w5_.heap.size ≤ k_ ∧ k_ < w6_.heap.size ∧ some k_ ≠ ((.slice A6_3 T.length c6_3) : Value).ownBlock ∧ some k_ ≠ ((.slice A6_4 V.length c6_4) : Value).ownBlock ∧ some k_ ≠ ((.slice A6_5 P.length c6_5) : Value).ownBlock)) (h2_ : (w4_.heap.size ≤ k_ ∧ k_ < w5_.heap.size)) => by have := s1_.out; have := s2_.out; have := s3_.out; have := s4_.out; have := s5_.out; have := s6_.out; have := s7_.out; have := s8_.out; have := s9_.out; have := s10_.out; (first | omega | exact h2_.2.2 h1_.2.2 | exact h1_.2.2 h2_.2.2))); replace Fg3 := Aside0.mk (Kd.R_kept Fg3.out hk (fun k_ (h1_ : (w5_.heap.size ≤ k_ ∧ k_ < w6_.heap.size ∧ some k_ = ((.slice A6_3 T.length c6_3) : Value).ownBlock ∧ some k_ ≠ ((.slice A6_4 V.length c6_4) : Value).ownBlock ∧ some k_ ≠ ((.slice A6_5 P.length c6_5) : Value).ownBlock)) (h2_ : (w4_.heap.size ≤ k_ ∧ k_ < w5_.heap.size)) => by have := s1_.out; have := s2_.out; have := s3_.out; have := s4_.out; have := s5_.out; have := s6_.out; have := s7_.out; have := s8_.out; have := s9_.out; have := s10_.out; (first | omega | exact h2_.2.2 h1_.2.2 | exact h1_.2.2 h2_.2.2))); replace Fg4 := Aside0.mk (Kd.R_kept Fg4.out hk (fun k_ (h1_ : (w5_.heap.size ≤ k_ ∧ k_ < w6_.heap.size ∧ some k_ = ((.slice A6_4 V.length c6_4) : Value).ownBlock ∧ some k_ ≠ ((.slice A6_5 P.length c6_5) : Value).ownBlock)) (h2_ : (w4_.heap.size ≤ k_ ∧ k_ < w5_.heap.size)) => by have := s1_.out; have := s2_.out; have := s3_.out; have := s4_.out; have := s5_.out; have := s6_.out; have := s7_.out; have := s8_.out; have := s9_.out; have := s10_.out; (first | omega | exact h2_.2.2 h1_.2.2 | exact h1_.2.2 h2_.2.2))); replace Fg5 := Aside0.mk (Kd.R_kept Fg5.out hk (fun k_ (h1_ : (w5_.heap.size ≤ k_ ∧ k_ < w6_.heap.size ∧ some k_ = ((.slice A6_5 P.length c6_5) : Value).ownBlock)) (h2_ : (w4_.heap.size ≤ k_ ∧ k_ < w5_.heap.size)) => by have := s1_.out; have := s2_.out; have := s3_.out; have := s4_.out; have := s5_.out; have := s6_.out; have := s7_.out; have := s8_.out; have := s9_.out; have := s10_.out; (first | omega | exact h2_.2.2 h1_.2.2 | exact h1_.2.2 h2_.2.2))); replace Fx := Aside0.mk (show Kd.S (Kd.slice 3 (Kd.int .i64)) 24 w11_ w.heap.size (fun k_ => ((w4_.heap.size ≤ k_ ∧ k_ < w5_.heap.size) ∨ (w10_.heap.size ≤ k_ ∧ k_ < w11_.heap.size))) (.slice A5_0 l1.length c5_0) X1 from Kd.S_mono (Kd.S_bound ho) (fun k_ hk_ => hk_.1.elim .inl (fun h_ => .inr ⟨h_, hk_.2.2.1⟩))); replace HB := Aside0.mk (hb); (try clear hb); (try clear hk); (try clear ho); (try clear hczW_0); have hczW_0 : w11_.cell? ⟨w3_.heap.size, 0, none⟩ = some (.slice A3_0 Y.length c3_0) := (blk_cell BKW.out 0).trans rfl; (try clear hczW_1); have hczW_1 : w11_.cell? ⟨w3_.heap.size, 1, none⟩ = some (.int .i64 y1) := (blk_cell BKW.out 1).trans rfl; (try clear hczW_2); have hczW_2 : w11_.cell? ⟨w3_.heap.size, 2, none⟩ = some (.int .i64 y2) := (blk_cell BKW.out 2).trans rfl; (try clear hczW_3); have hczW_3 : w11_.cell? ⟨w3_.heap.size, 3, none⟩ = some (.slice A3_3 T.length c3_3) := (blk_cell BKW.out 3).trans rfl; (try clear hczW_4); have hczW_4 : w11_.cell? ⟨w3_.heap.size, 4, none⟩ = some (.slice A3_4 V.length c3_4) := (blk_cell BKW.out 4).trans rfl; (try clear hczW_5); have hczW_5 : w11_.cell? ⟨w3_.heap.size, 5, none⟩ = some (.slice A3_5 P.length c3_5) := (blk_cell BKW.out 5).trans rfl; (try clear hczW_6); have hczW_6 : w11_.cell? ⟨w3_.heap.size, 6, none⟩ = some (.int .i64 y6) := (blk_cell BKW.out 6).trans rfl; (try clear hczG_0); have hczG_0 : w11_.cell? ⟨w6_.heap.size, 0, none⟩ = some (.slice A6_0 Y.length c6_0) := (blk_cell BKG.out 0).trans rfl; (try clear hczG_1); have hczG_1 : w11_.cell? ⟨w6_.heap.size, 1, none⟩ = some (.int .i64 y1) := (blk_cell BKG.out 1).trans rfl; (try clear hczG_2); have hczG_2 : w11_.cell? ⟨w6_.heap.size, 2, none⟩ = some (.int .i64 y2) := (blk_cell BKG.out 2).trans rfl; (try clear hczG_3); have hczG_3 : w11_.cell? ⟨w6_.heap.size, 3, none⟩ = some (.slice A6_3 T.length c6_3) := (blk_cell BKG.out 3).trans rfl; (try clear hczG_4); have hczG_4 : w11_.cell? ⟨w6_.heap.size, 4, none⟩ = some (.slice A6_4 V.length c6_4) := (blk_cell BKG.out 4).trans rfl; (try clear hczG_5); have hczG_5 : w11_.cell? ⟨w6_.heap.size, 5, none⟩ = some (.slice A6_5 P.length c6_5) := (blk_cell BKG.out 5).trans rfl; (try clear hczG_6); have hczG_6 : w11_.cell? ⟨w6_.heap.size, 6, none⟩ = some (.int .i64 y6) := (blk_cell BKG.out 6).trans rfl))
  go_wp2_with (first | (go_at_call 41; (with_reducible refine (laws_eqDeal.calls k5 _ _ Y y1 y2 _ _ T _ _ V _ _ P y6 _ _ Y y1 y2 _ _ T _ _ V _ _ P y6 true _ (Kd.S_reads' Fg0.out).2.2 (Kd.S_reads' Fg0.out).2.1 (Kd.R_reads' Fg3.out).2.2 (Kd.R_reads' Fg3.out).2.1 (Kd.R_reads' Fg4.out).2.2 (Kd.R_reads' Fg4.out).2.1 (Kd.R_reads' Fg5.out).2.2 (Kd.R_reads' Fg5.out).2.1 (Kd.S_reads' Fw0.out).2.2 (Kd.S_reads' Fw0.out).2.1 (Kd.R_reads' Fw3.out).2.2 (Kd.R_reads' Fw3.out).2.1 (Kd.R_reads' Fw4.out).2.2 (Kd.R_reads' Fw4.out).2.1 (Kd.R_reads' Fw5.out).2.2 (Kd.R_reads' Fw5.out).2.1 E5.out).mono ?_); rintro e w12_ ⟨rfl, hb⟩; have s12_ := Aside0.mk hb.size; replace BKW := Aside0.mk (blk_below BKW.out hb); replace BKG := Aside0.mk (blk_below BKG.out hb); replace Fw0 := Aside0.mk (Kd.S_below Fw0.out hb); replace Fw3 := Aside0.mk (Kd.R_below Fw3.out hb); replace Fw4 := Aside0.mk (Kd.R_below Fw4.out hb); replace Fw5 := Aside0.mk (Kd.R_below Fw5.out hb); replace Fx := Aside0.mk (Kd.S_below Fx.out hb); replace Fg0 := Aside0.mk (Kd.S_below Fg0.out hb); replace Fg3 := Aside0.mk (Kd.R_below Fg3.out hb); replace Fg4 := Aside0.mk (Kd.R_below Fg4.out hb); replace Fg5 := Aside0.mk (Kd.R_below Fg5.out hb); replace HB := Aside0.mk (below_step HB.out hb); (try clear hb); (try clear hczG_0); have hczG_0 : w12_.cell? ⟨w6_.heap.size, 0, none⟩ = some (.slice A6_0 Y.length c6_0) := (blk_cell BKG.out 0).trans rfl; (try clear hczG_1); have hczG_1 : w12_.cell? ⟨w6_.heap.size, 1, none⟩ = some (.int .i64 y1) := (blk_cell BKG.out 1).trans rfl; (try clear hczG_2); have hczG_2 : w12_.cell? ⟨w6_.heap.size, 2, none⟩ = some (.int .i64 y2) := (blk_cell BKG.out 2).trans rfl; (try clear hczG_3); have hczG_3 : w12_.cell? ⟨w6_.heap.size, 3, none⟩ = some (.slice A6_3 T.length c6_3) := (blk_cell BKG.out 3).trans rfl; (try clear hczG_4); have hczG_4 : w12_.cell? ⟨w6_.heap.size, 4, none⟩ = some (.slice A6_4 V.length c6_4) := (blk_cell BKG.out 4).trans rfl; (try clear hczG_5); have hczG_5 : w12_.cell? ⟨w6_.heap.size, 5, none⟩ = some (.slice A6_5 P.length c6_5) := (blk_cell BKG.out 5).trans rfl; (try clear hczG_6); have hczG_6 : w12_.cell? ⟨w6_.heap.size, 6, none⟩ = some (.int .i64 y6) := (blk_cell BKG.out 6).trans rfl))
  go_wp2_with (first | (go_at_call 50; (with_reducible refine (laws_markDeal.calls k8 (fun k_ => (w5_.heap.size ≤ k_ ∧ k_ < w6_.heap.size ∧ some k_ ≠ ((.slice A6_3 T.length c6_3) : Value).ownBlock ∧ some k_ ≠ ((.slice A6_4 V.length c6_4) : Value).ownBlock ∧ some k_ ≠ ((.slice A6_5 P.length c6_5) : Value).ownBlock)) _ Y y1 y2 (fun k_ => (w5_.heap.size ≤ k_ ∧ k_ < w6_.heap.size ∧ some k_ = ((.slice A6_3 T.length c6_3) : Value).ownBlock ∧ some k_ ≠ ((.slice A6_4 V.length c6_4) : Value).ownBlock ∧ some k_ ≠ ((.slice A6_5 P.length c6_5) : Value).ownBlock)) _ T (fun k_ => (w5_.heap.size ≤ k_ ∧ k_ < w6_.heap.size ∧ some k_ = ((.slice A6_4 V.length c6_4) : Value).ownBlock ∧ some k_ ≠ ((.slice A6_5 P.length c6_5) : Value).ownBlock)) _ V (fun k_ => (w5_.heap.size ≤ k_ ∧ k_ < w6_.heap.size ∧ some k_ = ((.slice A6_5 P.length c6_5) : Value).ownBlock)) _ P y6 1 m M N3 N4 N5 w _ HB.out Fg0.out Fg3.out Fg4.out Fg5.out (fun k_ (h1_ : (w5_.heap.size ≤ k_ ∧ k_ < w6_.heap.size ∧ some k_ ≠ ((.slice A6_3 T.length c6_3) : Value).ownBlock ∧ some k_ ≠ ((.slice A6_4 V.length c6_4) : Value).ownBlock ∧ some k_ ≠ ((.slice A6_5 P.length c6_5) : Value).ownBlock)) => (⟨(by have := s1_.out; have := s2_.out; have := s3_.out; have := s4_.out; have := s5_.out; have := s6_.out; have := s7_.out; have := s8_.out; have := s9_.out; have := s10_.out; have := s11_.out; have := s12_.out; omega), fun (h2_ : (w5_.heap.size ≤ k_ ∧ k_ < w6_.heap.size ∧ some k_ = ((.slice A6_3 T.length c6_3) : Value).ownBlock ∧ some k_ ≠ ((.slice A6_4 V.length c6_4) : Value).ownBlock ∧ some k_ ≠ ((.slice A6_5 P.length c6_5) : Value).ownBlock)) => absurd h2_.2.2.1 h1_.2.2.1, fun (h2_ : (w5_.heap.size ≤ k_ ∧ k_ < w6_.heap.size ∧ some k_ = ((.slice A6_4 V.length c6_4) : Value).ownBlock ∧ some k_ ≠ ((.slice A6_5 P.length c6_5) : Value).ownBlock)) => absurd h2_.2.2.1 h1_.2.2.2.1, fun (h2_ : (w5_.heap.size ≤ k_ ∧ k_ < w6_.heap.size ∧ some k_ = ((.slice A6_5 P.length c6_5) : Value).ownBlock)) => absurd h2_.2.2 h1_.2.2.2.2⟩ : _ ∧ _ ∧ _ ∧ _)) (fun k_ (h1_ : (w5_.heap.size ≤ k_ ∧ k_ < w6_.heap.size ∧ some k_ = ((.slice A6_3 T.length c6_3) : Value).ownBlock ∧ some k_ ≠ ((.slice A6_4 V.length c6_4) : Value).ownBlock ∧ some k_ ≠ ((.slice A6_5 P.length c6_5) : Value).ownBlock)) => (⟨(by have := s1_.out; have := s2_.out; have := s3_.out; have := s4_.out; have := s5_.out; have := s6_.out; have := s7_.out; have := s8_.out; have := s9_.out; have := s10_.out; have := s11_.out; have := s12_.out; omega), fun (h2_ : (w5_.heap.size ≤ k_ ∧ k_ < w6_.heap.size ∧ some k_ = ((.slice A6_4 V.length c6_4) : Value).ownBlock ∧ some k_ ≠ ((.slice A6_5 P.length c6_5) : Value).ownBlock)) => absurd h2_.2.2.1 h1_.2.2.2.1, fun (h2_ : (w5_.heap.size ≤ k_ ∧ k_ < w6_.heap.size ∧ some k_ = ((.slice A6_5 P.length c6_5) : Value).ownBlock)) => absurd h2_.2.2 h1_.2.2.2.2⟩ : _ ∧ _ ∧ _)) (fun k_ (h1_ : (w5_.heap.size ≤ k_ ∧ k_ < w6_.heap.size ∧ some k_ = ((.slice A6_4 V.length c6_4) : Value).ownBlock ∧ some k_ ≠ ((.slice A6_5 P.length c6_5) : Value).ownBlock)) => (⟨(by have := s1_.out; have := s2_.out; have := s3_.out; have := s4_.out; have := s5_.out; have := s6_.out; have := s7_.out; have := s8_.out; have := s9_.out; have := s10_.out; have := s11_.out; have := s12_.out; omega), fun (h2_ : (w5_.heap.size ≤ k_ ∧ k_ < w6_.heap.size ∧ some k_ = ((.slice A6_5 P.length c6_5) : Value).ownBlock)) => absurd h2_.2.2 h1_.2.2.2⟩ : _ ∧ _)) (fun k_ (h1_ : (w5_.heap.size ≤ k_ ∧ k_ < w6_.heap.size ∧ some k_ = ((.slice A6_5 P.length c6_5) : Value).ownBlock)) => (by have := s1_.out; have := s2_.out; have := s3_.out; have := s4_.out; have := s5_.out; have := s6_.out; have := s7_.out; have := s8_.out; have := s9_.out; have := s10_.out; have := s11_.out; have := s12_.out; omega)) E8.out).mono ?_); rintro e w13_ ⟨rfl, ho0, ho3, ho4, ho5, hb, hk⟩; have s13_ := Aside0.mk hk.1; replace BKW := Aside0.mk (blk_kept BKW.out hk (fun h2_ => by have := s1_.out; have := s2_.out; have := s3_.out; have := s4_.out; have := s5_.out; have := s6_.out; have := s7_.out; have := s8_.out; have := s9_.out; have := s10_.out; have := s11_.out; have := s12_.out; rcases h2_ with h2_ | h2_ | h2_ | h2_ <;> omega)); replace BKG := Aside0.mk (blk_kept BKG.out hk (fun h2_ => by have := s1_.out; have := s2_.out; have := s3_.out; have := s4_.out; have := s5_.out; have := s6_.out; have := s7_.out; have := s8_.out; have := s9_.out; have := s10_.out; have := s11_.out; have := s12_.out; rcases h2_ with h2_ | h2_ | h2_ | h2_ <;> omega)); replace Fw0 := Aside0.mk (Kd.S_kept Fw0.out hk (fun k_ (h1_ : (w2_.heap.size ≤ k_ ∧ k_ < w3_.heap.size ∧ some k_ ≠ ((.slice A3_3 T.length c3_3) : Value).ownBlock ∧ some k_ ≠ ((.slice A3_4 V.length c3_4) : Value).ownBlock ∧ some k_ ≠ ((.slice A3_5 P.length c3_5) : Value).ownBlock)) (h2_ : (w5_.heap.size ≤ k_ ∧ k_ < w6_.heap.size ∧ some k_ ≠ ((.slice A6_3 T.length c6_3) : Value).ownBlock ∧ some k_ ≠ ((.slice A6_4 V.length c6_4) : Value).ownBlock ∧ some k_ ≠ ((.slice A6_5 P.length c6_5) : Value).ownBlock) ∨ (w5_.heap.size ≤ k_ ∧ k_ < w6_.heap.size ∧ some k_ = ((.slice A6_3 T.length c6_3) : Value).ownBlock ∧ some k_ ≠ ((.slice A6_4 V.length c6_4) : Value).ownBlock ∧ some k_ ≠ ((.slice A6_5 P.length c6_5) : Value).ownBlock) ∨ (w5_.heap.size ≤ k_ ∧ k_ < w6_.heap.size ∧ some k_ = ((.slice A6_4 V.length c6_4) : Value).ownBlock ∧ some k_ ≠ ((.slice A6_5 P.length c6_5) : Value).ownBlock) ∨ (w5_.heap.size ≤ k_ ∧ k_ < w6_.heap.size ∧ some k_ = ((.slice A6_5 P.length c6_5) : Value).ownBlock)) => by have := s1_.out; have := s2_.out; have := s3_.out; have := s4_.out; have := s5_.out; have := s6_.out; have := s7_.out; have := s8_.out; have := s9_.out; have := s10_.out; have := s11_.out; have := s12_.out; rcases h2_ with h2_ | h2_ | h2_ | h2_ <;> omega)); replace Fw3 := Aside0.mk (Kd.R_kept Fw3.out hk (fun k_ (h1_ : (w2_.heap.size ≤ k_ ∧ k_ < w3_.heap.size ∧ some k_ = ((.slice A3_3 T.length c3_3) : Value).ownBlock ∧ some k_ ≠ ((.slice A3_4 V.length c3_4) : Value).ownBlock ∧ some k_ ≠ ((.slice A3_5 P.length c3_5) : Value).ownBlock)) (h2_ : (w5_.heap.size ≤ k_ ∧ k_ < w6_.heap.size ∧ some k_ ≠ ((.slice A6_3 T.length c6_3) : Value).ownBlock ∧ some k_ ≠ ((.slice A6_4 V.length c6_4) : Value).ownBlock ∧ some k_ ≠ ((.slice A6_5 P.length c6_5) : Value).ownBlock) ∨ (w5_.heap.size ≤ k_ ∧ k_ < w6_.heap.size ∧ some k_ = ((.slice A6_3 T.length c6_3) : Value).ownBlock ∧ some k_ ≠ ((.slice A6_4 V.length c6_4) : Value).ownBlock ∧ some k_ ≠ ((.slice A6_5 P.length c6_5) : Value).ownBlock) ∨ (w5_.heap.size ≤ k_ ∧ k_ < w6_.heap.size ∧ some k_ = ((.slice A6_4 V.length c6_4) : Value).ownBlock ∧ some k_ ≠ ((.slice A6_5 P.length c6_5) : Value).ownBlock) ∨ (w5_.heap.size ≤ k_ ∧ k_ < w6_.heap.size ∧ some k_ = ((.slice A6_5 P.length c6_5) : Value).ownBlock)) => by have := s1_.out; have := s2_.out; have := s3_.out; have := s4_.out; have := s5_.out; have := s6_.out; have := s7_.out; have := s8_.out; have := s9_.out; have := s10_.out; have := s11_.out; have := s12_.out; rcases h2_ with h2_ | h2_ | h2_ | h2_ <;> omega)); replace Fw4 := Aside0.mk (Kd.R_kept Fw4.out hk (fun k_ (h1_ : (w2_.heap.size ≤ k_ ∧ k_ < w3_.heap.size ∧ some k_ = ((.slice A3_4 V.length c3_4) : Value).ownBlock ∧ some k_ ≠ ((.slice A3_5 P.length c3_5) : Value).ownBlock)) (h2_ : (w5_.heap.size ≤ k_ ∧ k_ < w6_.heap.size ∧ some k_ ≠ ((.slice A6_3 T.length c6_3) : Value).ownBlock ∧ some k_ ≠ ((.slice A6_4 V.length c6_4) : Value).ownBlock ∧ some k_ ≠ ((.slice A6_5 P.length c6_5) : Value).ownBlock) ∨ (w5_.heap.size ≤ k_ ∧ k_ < w6_.heap.size ∧ some k_ = ((.slice A6_3 T.length c6_3) : Value).ownBlock ∧ some k_ ≠ ((.slice A6_4 V.length c6_4) : Value).ownBlock ∧ some k_ ≠ ((.slice A6_5 P.length c6_5) : Value).ownBlock) ∨ (w5_.heap.size ≤ k_ ∧ k_ < w6_.heap.size ∧ some k_ = ((.slice A6_4 V.length c6_4) : Value).ownBlock ∧ some k_ ≠ ((.slice A6_5 P.length c6_5) : Value).ownBlock) ∨ (w5_.heap.size ≤ k_ ∧ k_ < w6_.heap.size ∧ some k_ = ((.slice A6_5 P.length c6_5) : Value).ownBlock)) => by have := s1_.out; have := s2_.out; have := s3_.out; have := s4_.out; have := s5_.out; have := s6_.out; have := s7_.out; have := s8_.out; have := s9_.out; have := s10_.out; have := s11_.out; have := s12_.out; rcases h2_ with h2_ | h2_ | h2_ | h2_ <;> omega)); replace Fw5 := Aside0.mk (Kd.R_kept Fw5.out hk (fun k_ (h1_ : (w2_.heap.size ≤ k_ ∧ k_ < w3_.heap.size ∧ some k_ = ((.slice A3_5 P.length c3_5) : Value).ownBlock)) (h2_ : (w5_.heap.size ≤ k_ ∧ k_ < w6_.heap.size ∧ some k_ ≠ ((.slice A6_3 T.length c6_3) : Value).ownBlock ∧ some k_ ≠ ((.slice A6_4 V.length c6_4) : Value).ownBlock ∧ some k_ ≠ ((.slice A6_5 P.length c6_5) : Value).ownBlock) ∨ (w5_.heap.size ≤ k_ ∧ k_ < w6_.heap.size ∧ some k_ = ((.slice A6_3 T.length c6_3) : Value).ownBlock ∧ some k_ ≠ ((.slice A6_4 V.length c6_4) : Value).ownBlock ∧ some k_ ≠ ((.slice A6_5 P.length c6_5) : Value).ownBlock) ∨ (w5_.heap.size ≤ k_ ∧ k_ < w6_.heap.size ∧ some k_ = ((.slice A6_4 V.length c6_4) : Value).ownBlock ∧ some k_ ≠ ((.slice A6_5 P.length c6_5) : Value).ownBlock) ∨ (w5_.heap.size ≤ k_ ∧ k_ < w6_.heap.size ∧ some k_ = ((.slice A6_5 P.length c6_5) : Value).ownBlock)) => by have := s1_.out; have := s2_.out; have := s3_.out; have := s4_.out; have := s5_.out; have := s6_.out; have := s7_.out; have := s8_.out; have := s9_.out; have := s10_.out; have := s11_.out; have := s12_.out; rcases h2_ with h2_ | h2_ | h2_ | h2_ <;> omega)); replace Fx := Aside0.mk (Kd.S_kept Fx.out hk (fun k_ (h1_ : ((w4_.heap.size ≤ k_ ∧ k_ < w5_.heap.size) ∨ (w10_.heap.size ≤ k_ ∧ k_ < w11_.heap.size))) (h2_ : (w5_.heap.size ≤ k_ ∧ k_ < w6_.heap.size ∧ some k_ ≠ ((.slice A6_3 T.length c6_3) : Value).ownBlock ∧ some k_ ≠ ((.slice A6_4 V.length c6_4) : Value).ownBlock ∧ some k_ ≠ ((.slice A6_5 P.length c6_5) : Value).ownBlock) ∨ (w5_.heap.size ≤ k_ ∧ k_ < w6_.heap.size ∧ some k_ = ((.slice A6_3 T.length c6_3) : Value).ownBlock ∧ some k_ ≠ ((.slice A6_4 V.length c6_4) : Value).ownBlock ∧ some k_ ≠ ((.slice A6_5 P.length c6_5) : Value).ownBlock) ∨ (w5_.heap.size ≤ k_ ∧ k_ < w6_.heap.size ∧ some k_ = ((.slice A6_4 V.length c6_4) : Value).ownBlock ∧ some k_ ≠ ((.slice A6_5 P.length c6_5) : Value).ownBlock) ∨ (w5_.heap.size ≤ k_ ∧ k_ < w6_.heap.size ∧ some k_ = ((.slice A6_5 P.length c6_5) : Value).ownBlock)) => by have := s1_.out; have := s2_.out; have := s3_.out; have := s4_.out; have := s5_.out; have := s6_.out; have := s7_.out; have := s8_.out; have := s9_.out; have := s10_.out; have := s11_.out; have := s12_.out; rcases h1_ with h1_ | h1_ <;> rcases h2_ with h2_ | h2_ | h2_ | h2_ <;> omega)); replace Fg0 := Aside0.mk (show Kd.S (Kd.slice 3 (Kd.int .i64)) 24 w13_ w.heap.size (fun k_ => ((w5_.heap.size ≤ k_ ∧ k_ < w6_.heap.size ∧ some k_ ≠ ((.slice A6_3 T.length c6_3) : Value).ownBlock ∧ some k_ ≠ ((.slice A6_4 V.length c6_4) : Value).ownBlock ∧ some k_ ≠ ((.slice A6_5 P.length c6_5) : Value).ownBlock) ∨ (w12_.heap.size ≤ k_ ∧ k_ < w13_.heap.size))) (.slice A6_0 Y.length c6_0) M from Kd.S_mono (Kd.S_bound ho0) (fun k_ hk_ => hk_.1.elim .inl (fun h_ => .inr ⟨h_, hk_.2.2.1⟩))); replace Fg3 := Aside0.mk (show Kd.R (Kd.int .i64) 3 w13_ w.heap.size (fun k_ => (w5_.heap.size ≤ k_ ∧ k_ < w6_.heap.size ∧ some k_ = ((.slice A6_3 T.length c6_3) : Value).ownBlock ∧ some k_ ≠ ((.slice A6_4 V.length c6_4) : Value).ownBlock ∧ some k_ ≠ ((.slice A6_5 P.length c6_5) : Value).ownBlock)) (.slice A6_3 T.length c6_3) N3 from ho3); replace Fg4 := Aside0.mk (show Kd.R (Kd.int .i64) 3 w13_ w.heap.size (fun k_ => (w5_.heap.size ≤ k_ ∧ k_ < w6_.heap.size ∧ some k_ = ((.slice A6_4 V.length c6_4) : Value).ownBlock ∧ some k_ ≠ ((.slice A6_5 P.length c6_5) : Value).ownBlock)) (.slice A6_4 V.length c6_4) N4 from ho4); replace Fg5 := Aside0.mk (show Kd.R (Kd.int .i64) 3 w13_ w.heap.size (fun k_ => (w5_.heap.size ≤ k_ ∧ k_ < w6_.heap.size ∧ some k_ = ((.slice A6_5 P.length c6_5) : Value).ownBlock)) (.slice A6_5 P.length c6_5) N5 from ho5); replace HB := Aside0.mk (hb); (try clear hb); (try clear hk); (try clear ho0); (try clear ho3); (try clear ho4); (try clear ho5); (try clear hczG_0); have hczG_0 : w13_.cell? ⟨w6_.heap.size, 0, none⟩ = some (.slice A6_0 Y.length c6_0) := (blk_cell BKG.out 0).trans rfl; (try clear hczG_1); have hczG_1 : w13_.cell? ⟨w6_.heap.size, 1, none⟩ = some (.int .i64 y1) := (blk_cell BKG.out 1).trans rfl; (try clear hczG_2); have hczG_2 : w13_.cell? ⟨w6_.heap.size, 2, none⟩ = some (.int .i64 y2) := (blk_cell BKG.out 2).trans rfl; (try clear hczG_3); have hczG_3 : w13_.cell? ⟨w6_.heap.size, 3, none⟩ = some (.slice A6_3 T.length c6_3) := (blk_cell BKG.out 3).trans rfl; (try clear hczG_4); have hczG_4 : w13_.cell? ⟨w6_.heap.size, 4, none⟩ = some (.slice A6_4 V.length c6_4) := (blk_cell BKG.out 4).trans rfl; (try clear hczG_5); have hczG_5 : w13_.cell? ⟨w6_.heap.size, 5, none⟩ = some (.slice A6_5 P.length c6_5) := (blk_cell BKG.out 5).trans rfl; (try clear hczG_6); have hczG_6 : w13_.cell? ⟨w6_.heap.size, 6, none⟩ = some (.int .i64 y6) := (blk_cell BKG.out 6).trans rfl))
  go_wp2_with (first | (go_at_call 51; refine calls_of_args (args' := #[.agg #[.slice A6_0 M.length c6_0, .int .i64 y1, .int .i64 y2, .slice A6_3 N3.length c6_3, .slice A6_4 N4.length c6_4, .slice A6_5 N5.length c6_5, .int .i64 y6], .int .i64 1]) (by rw [← (Kd.S_reads' Fg0.out).1, ← (Kd.R_reads' Fg3.out).1, ← (Kd.R_reads' Fg4.out).1, ← (Kd.R_reads' Fg5.out).1]) ?_; (with_reducible refine (laws_heldDeal.calls k9 _ _ M y1 y2 _ _ N3 _ _ N4 _ _ N5 y6 1 m _ (Kd.S_reads' Fg0.out).2.2 (by have h_ := Kd.S_reads' Fg0.out; omega) (Kd.R_reads' Fg3.out).2.2 (by have h_ := Kd.R_reads' Fg3.out; omega) (Kd.R_reads' Fg4.out).2.2 (by have h_ := Kd.R_reads' Fg4.out; omega) (Kd.R_reads' Fg5.out).2.2 (by have h_ := Kd.R_reads' Fg5.out; omega) E9.out).mono ?_); rintro e w14_ ⟨rfl, hb⟩; have s14_ := Aside0.mk hb.size; replace BKW := Aside0.mk (blk_below BKW.out hb); replace BKG := Aside0.mk (blk_below BKG.out hb); replace Fw0 := Aside0.mk (Kd.S_below Fw0.out hb); replace Fw3 := Aside0.mk (Kd.R_below Fw3.out hb); replace Fw4 := Aside0.mk (Kd.R_below Fw4.out hb); replace Fw5 := Aside0.mk (Kd.R_below Fw5.out hb); replace Fx := Aside0.mk (Kd.S_below Fx.out hb); replace Fg0 := Aside0.mk (Kd.S_below Fg0.out hb); replace Fg3 := Aside0.mk (Kd.R_below Fg3.out hb); replace Fg4 := Aside0.mk (Kd.R_below Fg4.out hb); replace Fg5 := Aside0.mk (Kd.R_below Fg5.out hb); replace HB := Aside0.mk (below_step HB.out hb); (try clear hb)))
  clear Fx
  go_wp2_with (first | (go_at_call 48; (with_reducible refine (laws_toIntSS.calls k2 _ _ l1 l1 _ (Kd.C_below HR1.out HB.out) HC1.out E2.out).mono ?_); rintro e w15_ ⟨v15_0, rfl, ho0, hb⟩; obtain ⟨A15_0, c15_0, rfl⟩ := Kd.S_slice ho0; have s15_ := Aside0.mk hb.size; replace BKW := Aside0.mk (blk_below BKW.out hb); replace BKG := Aside0.mk (blk_below BKG.out hb); replace Fw0 := Aside0.mk (Kd.S_below Fw0.out hb); replace Fw3 := Aside0.mk (Kd.R_below Fw3.out hb); replace Fw4 := Aside0.mk (Kd.R_below Fw4.out hb); replace Fw5 := Aside0.mk (Kd.R_below Fw5.out hb); replace Fg0 := Aside0.mk (Kd.S_below Fg0.out hb); replace Fg3 := Aside0.mk (Kd.R_below Fg3.out hb); replace Fg4 := Aside0.mk (Kd.R_below Fg4.out hb); replace Fg5 := Aside0.mk (Kd.R_below Fg5.out hb); replace Fx := Aside0.mk (show Kd.S (Kd.slice 3 (Kd.int .i64)) 24 w15_ w.heap.size (fun k_ => (w14_.heap.size ≤ k_ ∧ k_ < w15_.heap.size)) (.slice A15_0 l1.length c15_0) l1 from Kd.S_lower (Kd.S_mono (Kd.S_bound ho0) (fun k_ hk => (⟨hk.2.1, hk.2.2.1⟩ : _ ∧ _))) (below_size HB.out)); replace HB := Aside0.mk (below_step HB.out hb); (try clear hb); (try clear ho0)))
  go_wp2_with (first | (go_at_call 49; (with_reducible refine (impl_NewDeal.calls k4 _ _ l1 a b Y y1 y2 T V P y6 b_ _ (Kd.S_reads' Fx.out).2.2 (Kd.S_reads' Fx.out).2.1 E4.out).mono ?_); rintro e w16_ ⟨v16_0, v16_3, v16_4, v16_5, rfl, ho0, ho3, ho4, ho5, hb⟩; obtain ⟨A16_0, c16_0, rfl⟩ := Kd.S_slice ho0; obtain ⟨A16_3, c16_3, rfl⟩ := Kd.R_slice ho3; obtain ⟨A16_4, c16_4, rfl⟩ := Kd.R_slice ho4; obtain ⟨A16_5, c16_5, rfl⟩ := Kd.R_slice ho5; have s16_ := Aside0.mk hb.size; replace BKW := Aside0.mk (blk_below BKW.out hb); replace BKG := Aside0.mk (blk_below BKG.out hb); replace Fw0 := Aside0.mk (Kd.S_below Fw0.out hb); replace Fw3 := Aside0.mk (Kd.R_below Fw3.out hb); replace Fw4 := Aside0.mk (Kd.R_below Fw4.out hb); replace Fw5 := Aside0.mk (Kd.R_below Fw5.out hb); replace Fg0 := Aside0.mk (Kd.S_below Fg0.out hb); replace Fg3 := Aside0.mk (Kd.R_below Fg3.out hb); replace Fg4 := Aside0.mk (Kd.R_below Fg4.out hb); replace Fg5 := Aside0.mk (Kd.R_below Fg5.out hb); replace Fx := Aside0.mk (Kd.S_below Fx.out hb); have Fh0 := Aside0.mk (show Kd.S (Kd.slice 3 (Kd.int .i64)) 24 w16_ w.heap.size (fun k_ => (w15_.heap.size ≤ k_ ∧ k_ < w16_.heap.size ∧ some k_ ≠ ((.slice A16_3 T.length c16_3) : Value).ownBlock ∧ some k_ ≠ ((.slice A16_4 V.length c16_4) : Value).ownBlock ∧ some k_ ≠ ((.slice A16_5 P.length c16_5) : Value).ownBlock)) (.slice A16_0 Y.length c16_0) Y from Kd.S_lower (Kd.S_mono (Kd.S_bound ho0) (fun k_ hk => (⟨hk.2.1, hk.2.2.1, hk.1⟩ : _ ∧ _ ∧ _))) (below_size HB.out)); have Fh3 := Aside0.mk (show Kd.R (Kd.int .i64) 3 w16_ w.heap.size (fun k_ => (w15_.heap.size ≤ k_ ∧ k_ < w16_.heap.size ∧ some k_ = ((.slice A16_3 T.length c16_3) : Value).ownBlock ∧ some k_ ≠ ((.slice A16_4 V.length c16_4) : Value).ownBlock ∧ some k_ ≠ ((.slice A16_5 P.length c16_5) : Value).ownBlock)) (.slice A16_3 T.length c16_3) T from Kd.R_lower (Kd.R_mono (Kd.R_bound (Kd.R_mono (Kd.R_tight rfl ho3) (fun k_ hk => (⟨hk, ho3.1 k_ hk.symm⟩ : _ ∧ _)))) (fun k_ hk => (⟨hk.2.1, hk.2.2.1, hk.1.1, hk.1.2.1, hk.1.2.2⟩ : _ ∧ _ ∧ _))) (below_size HB.out)); have Fh4 := Aside0.mk (show Kd.R (Kd.int .i64) 3 w16_ w.heap.size (fun k_ => (w15_.heap.size ≤ k_ ∧ k_ < w16_.heap.size ∧ some k_ = ((.slice A16_4 V.length c16_4) : Value).ownBlock ∧ some k_ ≠ ((.slice A16_5 P.length c16_5) : Value).ownBlock)) (.slice A16_4 V.length c16_4) V from Kd.R_lower (Kd.R_mono (Kd.R_bound (Kd.R_mono (Kd.R_tight rfl ho4) (fun k_ hk => (⟨hk, ho4.1 k_ hk.symm⟩ : _ ∧ _)))) (fun k_ hk => (⟨hk.2.1, hk.2.2.1, hk.1.1, hk.1.2.2⟩ : _ ∧ _ ∧ _))) (below_size HB.out)); have Fh5 := Aside0.mk (show Kd.R (Kd.int .i64) 3 w16_ w.heap.size (fun k_ => (w15_.heap.size ≤ k_ ∧ k_ < w16_.heap.size ∧ some k_ = ((.slice A16_5 P.length c16_5) : Value).ownBlock)) (.slice A16_5 P.length c16_5) P from Kd.R_lower (Kd.R_mono (Kd.R_bound (Kd.R_mono (Kd.R_tight rfl ho5) (fun k_ hk => (⟨hk, ho5.1 k_ hk.symm⟩ : _ ∧ _)))) (fun k_ hk => (⟨hk.2.1, hk.2.2.1, hk.1.1⟩ : _ ∧ _ ∧ _))) (below_size HB.out)); replace HB := Aside0.mk (below_step HB.out hb); (try clear hb); (try clear ho0); (try clear ho3); (try clear ho4); (try clear ho5); (try clear hczW_0); have hczW_0 : w16_.cell? ⟨w3_.heap.size, 0, none⟩ = some (.slice A3_0 Y.length c3_0) := (blk_cell BKW.out 0).trans rfl; (try clear hczW_1); have hczW_1 : w16_.cell? ⟨w3_.heap.size, 1, none⟩ = some (.int .i64 y1) := (blk_cell BKW.out 1).trans rfl; (try clear hczW_2); have hczW_2 : w16_.cell? ⟨w3_.heap.size, 2, none⟩ = some (.int .i64 y2) := (blk_cell BKW.out 2).trans rfl; (try clear hczW_3); have hczW_3 : w16_.cell? ⟨w3_.heap.size, 3, none⟩ = some (.slice A3_3 T.length c3_3) := (blk_cell BKW.out 3).trans rfl; (try clear hczW_4); have hczW_4 : w16_.cell? ⟨w3_.heap.size, 4, none⟩ = some (.slice A3_4 V.length c3_4) := (blk_cell BKW.out 4).trans rfl; (try clear hczW_5); have hczW_5 : w16_.cell? ⟨w3_.heap.size, 5, none⟩ = some (.slice A3_5 P.length c3_5) := (blk_cell BKW.out 5).trans rfl; (try clear hczW_6); have hczW_6 : w16_.cell? ⟨w3_.heap.size, 6, none⟩ = some (.int .i64 y6) := (blk_cell BKW.out 6).trans rfl; have hyaW_0 := fun (o_ : Obj) => (show (w16_.alloc o_).cell? ⟨w3_.heap.size, 0, none⟩ = some (.slice A3_0 Y.length c3_0) from ((below_alloc (Below.refl w16_.heap.size w16_) o_).cell (World.block_lt_of_cell? _ _ hczW_0)).trans hczW_0); have hyaW_1 := fun (o_ : Obj) => (show (w16_.alloc o_).cell? ⟨w3_.heap.size, 1, none⟩ = some (.int .i64 y1) from ((below_alloc (Below.refl w16_.heap.size w16_) o_).cell (World.block_lt_of_cell? _ _ hczW_1)).trans hczW_1); have hyaW_2 := fun (o_ : Obj) => (show (w16_.alloc o_).cell? ⟨w3_.heap.size, 2, none⟩ = some (.int .i64 y2) from ((below_alloc (Below.refl w16_.heap.size w16_) o_).cell (World.block_lt_of_cell? _ _ hczW_2)).trans hczW_2); have hyaW_3 := fun (o_ : Obj) => (show (w16_.alloc o_).cell? ⟨w3_.heap.size, 3, none⟩ = some (.slice A3_3 T.length c3_3) from ((below_alloc (Below.refl w16_.heap.size w16_) o_).cell (World.block_lt_of_cell? _ _ hczW_3)).trans hczW_3); have hyaW_4 := fun (o_ : Obj) => (show (w16_.alloc o_).cell? ⟨w3_.heap.size, 4, none⟩ = some (.slice A3_4 V.length c3_4) from ((below_alloc (Below.refl w16_.heap.size w16_) o_).cell (World.block_lt_of_cell? _ _ hczW_4)).trans hczW_4); have hyaW_5 := fun (o_ : Obj) => (show (w16_.alloc o_).cell? ⟨w3_.heap.size, 5, none⟩ = some (.slice A3_5 P.length c3_5) from ((below_alloc (Below.refl w16_.heap.size w16_) o_).cell (World.block_lt_of_cell? _ _ hczW_5)).trans hczW_5); have hyaW_6 := fun (o_ : Obj) => (show (w16_.alloc o_).cell? ⟨w3_.heap.size, 6, none⟩ = some (.int .i64 y6) from ((below_alloc (Below.refl w16_.heap.size w16_) o_).cell (World.block_lt_of_cell? _ _ hczW_6)).trans hczW_6)))
  go_wp2_with (first | (go_at_call 41; refine Go.Proofs.Ytecjbogconeilaa.Lib.boxed_calls ?_; intro w17_ hbx_ hb hlt_; have s17_ := Aside0.mk hlt_; replace BKW := Aside0.mk (blk_below BKW.out hb); replace BKG := Aside0.mk (blk_below BKG.out hb); replace Fw0 := Aside0.mk (Kd.S_below Fw0.out hb); replace Fw3 := Aside0.mk (Kd.R_below Fw3.out hb); replace Fw4 := Aside0.mk (Kd.R_below Fw4.out hb); replace Fw5 := Aside0.mk (Kd.R_below Fw5.out hb); replace Fg0 := Aside0.mk (Kd.S_below Fg0.out hb); replace Fg3 := Aside0.mk (Kd.R_below Fg3.out hb); replace Fg4 := Aside0.mk (Kd.R_below Fg4.out hb); replace Fg5 := Aside0.mk (Kd.R_below Fg5.out hb); replace Fx := Aside0.mk (Kd.S_below Fx.out hb); replace Fh0 := Aside0.mk (Kd.S_below Fh0.out hb); replace Fh3 := Aside0.mk (Kd.R_below Fh3.out hb); replace Fh4 := Aside0.mk (Kd.R_below Fh4.out hb); replace Fh5 := Aside0.mk (Kd.R_below Fh5.out hb); replace HB := Aside0.mk (below_step HB.out hb); (try clear hczG_0); have hczG_0 : w17_.cell? ⟨w6_.heap.size, 0, none⟩ = some (.slice A6_0 Y.length c6_0) := (blk_cell BKG.out 0).trans rfl; (try clear hczG_1); have hczG_1 : w17_.cell? ⟨w6_.heap.size, 1, none⟩ = some (.int .i64 y1) := (blk_cell BKG.out 1).trans rfl; (try clear hczG_2); have hczG_2 : w17_.cell? ⟨w6_.heap.size, 2, none⟩ = some (.int .i64 y2) := (blk_cell BKG.out 2).trans rfl; (try clear hczG_3); have hczG_3 : w17_.cell? ⟨w6_.heap.size, 3, none⟩ = some (.slice A6_3 T.length c6_3) := (blk_cell BKG.out 3).trans rfl; (try clear hczG_4); have hczG_4 : w17_.cell? ⟨w6_.heap.size, 4, none⟩ = some (.slice A6_4 V.length c6_4) := (blk_cell BKG.out 4).trans rfl; (try clear hczG_5); have hczG_5 : w17_.cell? ⟨w6_.heap.size, 5, none⟩ = some (.slice A6_5 P.length c6_5) := (blk_cell BKG.out 5).trans rfl; (try clear hczG_6); have hczG_6 : w17_.cell? ⟨w6_.heap.size, 6, none⟩ = some (.int .i64 y6) := (blk_cell BKG.out 6).trans rfl; have BKH := Aside0.mk (show w17_.heap[w16_.heap.size]? = some (.cells #[.slice A16_0 Y.length c16_0, .int .i64 y1, .int .i64 y2, .slice A16_3 T.length c16_3, .slice A16_4 V.length c16_4, .slice A16_5 P.length c16_5, .int .i64 y6] 42 (0, 0)) from hbx_); clear hb hbx_ hlt_; (with_reducible refine (laws_eqDeal.calls k5 _ _ Y y1 y2 _ _ T _ _ V _ _ P y6 _ _ Y y1 y2 _ _ T _ _ V _ _ P y6 true _ (Kd.S_reads' Fh0.out).2.2 (Kd.S_reads' Fh0.out).2.1 (Kd.R_reads' Fh3.out).2.2 (Kd.R_reads' Fh3.out).2.1 (Kd.R_reads' Fh4.out).2.2 (Kd.R_reads' Fh4.out).2.1 (Kd.R_reads' Fh5.out).2.2 (Kd.R_reads' Fh5.out).2.1 (Kd.S_reads' Fw0.out).2.2 (Kd.S_reads' Fw0.out).2.1 (Kd.R_reads' Fw3.out).2.2 (Kd.R_reads' Fw3.out).2.1 (Kd.R_reads' Fw4.out).2.2 (Kd.R_reads' Fw4.out).2.1 (Kd.R_reads' Fw5.out).2.2 (Kd.R_reads' Fw5.out).2.1 E5.out).mono ?_); rintro e w18_ ⟨rfl, hb⟩; have s18_ := Aside0.mk hb.size; replace BKW := Aside0.mk (blk_below BKW.out hb); replace BKG := Aside0.mk (blk_below BKG.out hb); replace BKH := Aside0.mk (blk_below BKH.out hb); replace Fw0 := Aside0.mk (Kd.S_below Fw0.out hb); replace Fw3 := Aside0.mk (Kd.R_below Fw3.out hb); replace Fw4 := Aside0.mk (Kd.R_below Fw4.out hb); replace Fw5 := Aside0.mk (Kd.R_below Fw5.out hb); replace Fg0 := Aside0.mk (Kd.S_below Fg0.out hb); replace Fg3 := Aside0.mk (Kd.R_below Fg3.out hb); replace Fg4 := Aside0.mk (Kd.R_below Fg4.out hb); replace Fg5 := Aside0.mk (Kd.R_below Fg5.out hb); replace Fx := Aside0.mk (Kd.S_below Fx.out hb); replace Fh0 := Aside0.mk (Kd.S_below Fh0.out hb); replace Fh3 := Aside0.mk (Kd.R_below Fh3.out hb); replace Fh4 := Aside0.mk (Kd.R_below Fh4.out hb); replace Fh5 := Aside0.mk (Kd.R_below Fh5.out hb); replace HB := Aside0.mk (below_step HB.out hb); (try clear hb); (try clear hczG_0); have hczG_0 : w18_.cell? ⟨w6_.heap.size, 0, none⟩ = some (.slice A6_0 Y.length c6_0) := (blk_cell BKG.out 0).trans rfl; (try clear hczG_1); have hczG_1 : w18_.cell? ⟨w6_.heap.size, 1, none⟩ = some (.int .i64 y1) := (blk_cell BKG.out 1).trans rfl; (try clear hczG_2); have hczG_2 : w18_.cell? ⟨w6_.heap.size, 2, none⟩ = some (.int .i64 y2) := (blk_cell BKG.out 2).trans rfl; (try clear hczG_3); have hczG_3 : w18_.cell? ⟨w6_.heap.size, 3, none⟩ = some (.slice A6_3 T.length c6_3) := (blk_cell BKG.out 3).trans rfl; (try clear hczG_4); have hczG_4 : w18_.cell? ⟨w6_.heap.size, 4, none⟩ = some (.slice A6_4 V.length c6_4) := (blk_cell BKG.out 4).trans rfl; (try clear hczG_5); have hczG_5 : w18_.cell? ⟨w6_.heap.size, 5, none⟩ = some (.slice A6_5 P.length c6_5) := (blk_cell BKG.out 5).trans rfl; (try clear hczG_6); have hczG_6 : w18_.cell? ⟨w6_.heap.size, 6, none⟩ = some (.int .i64 y6) := (blk_cell BKG.out 6).trans rfl))
  go_wp2_with (first | (go_at_call 51; refine calls_of_args (args' := #[.agg #[.slice A6_0 M.length c6_0, .int .i64 y1, .int .i64 y2, .slice A6_3 N3.length c6_3, .slice A6_4 N4.length c6_4, .slice A6_5 N5.length c6_5, .int .i64 y6], .int .i64 1]) (by rw [← (Kd.S_reads' Fg0.out).1, ← (Kd.R_reads' Fg3.out).1, ← (Kd.R_reads' Fg4.out).1, ← (Kd.R_reads' Fg5.out).1]) ?_; (with_reducible refine (laws_heldDeal.calls k9 _ _ M y1 y2 _ _ N3 _ _ N4 _ _ N5 y6 1 m _ (Kd.S_reads' Fg0.out).2.2 (by have h_ := Kd.S_reads' Fg0.out; omega) (Kd.R_reads' Fg3.out).2.2 (by have h_ := Kd.R_reads' Fg3.out; omega) (Kd.R_reads' Fg4.out).2.2 (by have h_ := Kd.R_reads' Fg4.out; omega) (Kd.R_reads' Fg5.out).2.2 (by have h_ := Kd.R_reads' Fg5.out; omega) E9.out).mono ?_); rintro e w19_ ⟨rfl, hb⟩; have s19_ := Aside0.mk hb.size; replace BKW := Aside0.mk (blk_below BKW.out hb); replace BKG := Aside0.mk (blk_below BKG.out hb); replace BKH := Aside0.mk (blk_below BKH.out hb); replace Fw0 := Aside0.mk (Kd.S_below Fw0.out hb); replace Fw3 := Aside0.mk (Kd.R_below Fw3.out hb); replace Fw4 := Aside0.mk (Kd.R_below Fw4.out hb); replace Fw5 := Aside0.mk (Kd.R_below Fw5.out hb); replace Fg0 := Aside0.mk (Kd.S_below Fg0.out hb); replace Fg3 := Aside0.mk (Kd.R_below Fg3.out hb); replace Fg4 := Aside0.mk (Kd.R_below Fg4.out hb); replace Fg5 := Aside0.mk (Kd.R_below Fg5.out hb); replace Fx := Aside0.mk (Kd.S_below Fx.out hb); replace Fh0 := Aside0.mk (Kd.S_below Fh0.out hb); replace Fh3 := Aside0.mk (Kd.R_below Fh3.out hb); replace Fh4 := Aside0.mk (Kd.R_below Fh4.out hb); replace Fh5 := Aside0.mk (Kd.R_below Fh5.out hb); replace HB := Aside0.mk (below_step HB.out hb); (try clear hb); (try clear hczG_0); have hczG_0 : w19_.cell? ⟨w6_.heap.size, 0, none⟩ = some (.slice A6_0 Y.length c6_0) := (blk_cell BKG.out 0).trans rfl; (try clear hczG_1); have hczG_1 : w19_.cell? ⟨w6_.heap.size, 1, none⟩ = some (.int .i64 y1) := (blk_cell BKG.out 1).trans rfl; (try clear hczG_2); have hczG_2 : w19_.cell? ⟨w6_.heap.size, 2, none⟩ = some (.int .i64 y2) := (blk_cell BKG.out 2).trans rfl; (try clear hczG_3); have hczG_3 : w19_.cell? ⟨w6_.heap.size, 3, none⟩ = some (.slice A6_3 T.length c6_3) := (blk_cell BKG.out 3).trans rfl; (try clear hczG_4); have hczG_4 : w19_.cell? ⟨w6_.heap.size, 4, none⟩ = some (.slice A6_4 V.length c6_4) := (blk_cell BKG.out 4).trans rfl; (try clear hczG_5); have hczG_5 : w19_.cell? ⟨w6_.heap.size, 5, none⟩ = some (.slice A6_5 P.length c6_5) := (blk_cell BKG.out 5).trans rfl; (try clear hczG_6); have hczG_6 : w19_.cell? ⟨w6_.heap.size, 6, none⟩ = some (.int .i64 y6) := (blk_cell BKG.out 6).trans rfl))
  go_ret
  exact ⟨rfl, HB.out⟩

end Go.Proofs.Ytecjbogconeilaa.Pure
