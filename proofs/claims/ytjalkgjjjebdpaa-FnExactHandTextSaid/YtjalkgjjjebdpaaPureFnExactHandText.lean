/- In the given program FnExactHandText answers true for every input, by what its functions compute; no condition. -/
import Derived.Test.YtjalkgjjjebdpaaPFnExactHandTextx2
import Derived.Test.YtjalkgjjjebdpaaLib
import Derived.Test.YtjalkgjjjebdpaaCards
import Derived.Test.YtjalkgjjjebdpaaCards2
namespace Go.Proofs.Ytjalkgjjjebdpaa.Pure
open Go.RowKit Go.Proofs.Ytjalkgjjjebdpaa.PFnExactHandText Go.Proofs.YtjalkgjjjebdpaaW.PrintWords Go.Proofs.YtjalkgjjjebdpaaW.PrintLast Go.Proofs.YtjalkgjjjebdpaaW.PrintMore Go.Proofs.Ytjalkgjjjebdpaa.Lib
set_option linter.unusedVariables false
set_option linter.unusedSimpArgs false

theorem laws_toIntS_ev (l : List Int) (hl : l.length ≤ 1048576000) : Ev (fun k => laws_toIntS.f k l) l := by
  simp only [laws_toIntS.f]
  refine ev_pos (by omega) (ev_pos (by omega) ?_)
  refine ev_loop (fun k (s : List Int) i => laws_toIntS.l0 k l s i) l (fun _ _ => l) (fun s i => s.length = l.length ∧ s.take i = l.take i) ?_ ?_ _ 0 (by omega) ⟨by simp, by simp⟩
  · rintro s ⟨h1, h2⟩
    refine ev_unfold (fun k => rfl) ?_
    simp only [laws_toIntS.l0]
    refine ev_neg (by omega) (ev_ret ?_)
    rw [List.take_of_length_le (by omega), List.take_of_length_le (by omega)] at h2
    exact h2
  · rintro s i hi ⟨h1, h2⟩ ih
    refine ev_unfold (fun k => rfl) ?_
    simp only [laws_toIntS.l0]
    refine ev_pos (by omega) (ev_pos (by omega) (ev_pos (by omega) ?_))
    rw [w64next i (by omega), rd_at l i hi, Int.toNat_natCast]
    refine ih _ ⟨by simpa using h1, ?_⟩
    apply List.ext_getElem
    · simp; omega
    · intro j hj1 hj2
      simp at hj1 hj2
      simp only [List.getElem_take, List.getElem_set]
      by_cases hij : i = j
      · subst hij; simp
      · rw [if_neg hij]
        have h3 : (s.take i)[j]'(by simp; omega) = (l.take i)[j]'(by simp; omega) := by simp only [h2]
        simpa using h3

theorem laws_eqIntS_ev (a b : List Int) (ha : a.length ≤ 1048576000) : Ev (fun k => laws_eqIntS.f k a b) (decide (a = b)) := by
  simp only [laws_eqIntS.f]
  refine ev_ite (fun hlen => ?_) (fun hne => ev_ret ?_)
  · have hlen' : a.length = b.length := by omega
    have h := ev_loop (fun k (_ : Unit) i => laws_eqIntS.l0 k a b i) a (fun _ r => decide (r = b.drop (a.length - r.length))) (fun _ _ => True) ?_ ?_ () 0 (by omega) trivial
    · refine ev_done h ?_
      simp
    · rintro _ _
      refine ev_unfold (fun k => rfl) ?_
      simp only [laws_eqIntS.l0]
      refine ev_neg (by omega) (ev_ret ?_)
      rw [List.length_nil, Nat.sub_zero, hlen', drop_end]
      simp
    · rintro _ i hi _ ih
      refine ev_unfold (fun k => rfl) ?_
      simp only [laws_eqIntS.l0]
      refine ev_pos (by omega) (ev_pos (by omega) (ev_pos (by omega) ?_))
      rw [w64next i (by omega), rd_at a i hi, rd_at b i (by omega)]
      have e1 : a.length - (a[i] :: a.drop (i + 1)).length = i := by simp; omega
      have e2 : a.length - (a.drop (i + 1)).length = i + 1 := by simp; omega
      refine ev_ite (fun heq => ?_) (fun hne => ev_ret ?_)
      · refine ev_done (ih () trivial) ?_
        rw [e1, e2, drop_at b i (by omega), heq]
        exact decide_eq_decide.2 ⟨fun h => by rw [h], fun h => (List.cons.inj h).2⟩
      · rw [e1, drop_at b i (by omega)]
        exact (decide_eq_false (fun h => hne (List.cons.inj h).1)).symm
  · have : a ≠ b := by rintro rfl; exact hne rfl
    simp [this]

theorem spec_l1In_eq (n a b : Int) : spec_l1In.f n a b = some (inR n a b) := by
  unfold spec_l1In.f inR
  by_cases h : a ≤ n
  · rw [if_pos (by omega)]; simp [h]
  · rw [if_neg (by omega)]; simp [h]

theorem spec_IsCard_eq (c : Int) : spec_IsCard.f c = some (isCard c) := by
  unfold spec_IsCard.f isCard
  rw [spec_l1In_eq]; rfl

theorem spec_SuitOf_eq (c : Int) : spec_SuitOf.f c = some (suitOf c) := by
  unfold spec_SuitOf.f suitOf
  rw [spec_IsCard_eq]
  simp only [Option.bind_some]
  by_cases h : isCard c = true
  · have h2 := (isCard_iff c).1 h
    rw [if_pos h, if_pos h, Int.tdiv_eq_ediv_of_nonneg h2.1, w64 _ (by omega)]
  · rw [if_neg h, if_neg h]

theorem spec_RankOf_eq (c : Int) : spec_RankOf.f c = some (rankOf c) := by
  unfold spec_RankOf.f rankOf
  rw [spec_IsCard_eq]
  simp only [Option.bind_some]
  by_cases h : isCard c = true
  · rw [if_pos h, if_pos h, Int.tmod_eq_emod_of_nonneg ((isCard_iff c).1 h).1]
  · rw [if_neg h, if_neg h]

theorem spec_CardText_eq (c : Int) : spec_CardText.f c = some (cardText c) := by
  unfold spec_CardText.f
  simp only [spec_IsCard_eq, spec_RankOf_eq, spec_SuitOf_eq, Option.bind_some]
  by_cases h : isCard c = true
  · have hr := card_ranges h
    rw [if_pos h, w64 (rankOf c + 1) (by omega), w64 (suitOf c + 1) (by omega), if_pos (by omega), if_pos (by omega), if_pos (by omega), if_pos (by omega), if_pos (by omega), if_pos (by omega)]
    have hs := cardText_size h
    unfold cardText at hs ⊢
    rw [if_pos h] at hs ⊢
    rw [ByteArray.size_append] at hs
    unfold letter rankLetters suitLetters at hs ⊢
    rw [if_pos (by omega)]
  · unfold cardText
    rw [if_neg h, if_neg h]

theorem spec_HandText_ev (l : List Int) (hl : l.length ≤ 1048576000) : Ev (fun k => spec_HandText.f k l) (handText l) := by
  simp only [spec_HandText.f]
  refine ev_done (ev_loop (fun k (s : ByteArray) i => spec_HandText.l0 k l s i) l (fun s r => if l = [] then ⟨#[45]⟩ else textF s r) (fun s i => s.size ≤ 2 * i) ?_ ?_ ⟨#[]⟩ 0 (by omega) (by decide)) ?_
  · rintro s _
    refine ev_unfold (fun k => rfl) ?_
    simp only [spec_HandText.l0]
    refine ev_neg (by omega) ?_
    refine ev_ite (fun h => ev_ret ?_) (fun h => ev_ret ?_)
    · rw [if_pos (List.eq_nil_of_length_eq_zero (by omega))]
    · rw [if_neg (by rintro rfl; simp at h)]; rfl
  · rintro s i hi hs ih
    refine ev_unfold (fun k => rfl) ?_
    simp only [spec_HandText.l0]
    refine ev_pos (by omega) (ev_pos (by omega) (ev_eq (spec_IsCard_eq _) ?_))
    rw [w64next i (by omega), rd_at l i hi]
    have hq : ∀ q : ByteArray, cardTxt l[i] = q → Ev (fun k => spec_HandText.l0 k l (s ++ q) ((i + 1 : Nat) : Int)) (if l = [] then ⟨#[45]⟩ else textF s (l[i] :: l.drop (i + 1))) := by
      rintro q rfl
      refine ih _ ?_
      have := cardTxt_size l[i]
      rw [ByteArray.size_append]; omega
    refine ev_ite (fun h => ?_) (fun h => ?_)
    · refine ev_eq (spec_CardText_eq _) (ev_pos ?_ (hq _ ?_))
      · rw [cardText_size h]; omega
      · unfold cardTxt; rw [if_pos h]
    · refine ev_pos (by omega) (hq _ ?_)
      unfold cardTxt; rw [if_neg h]
  · simp [handText]

theorem impl_InRange_eq (n a b : Int) : impl_InRange.f n a b = some (inR n a b) := by
  unfold impl_InRange.f inR
  by_cases h : a ≤ n
  · rw [if_pos (by omega)]; simp [h]
  · rw [if_neg (by omega)]; simp [h]

theorem impl_IsCard_eq (c : Int) : impl_IsCard.f c = some (isCard c) := by
  unfold impl_IsCard.f isCard
  rw [impl_InRange_eq]; rfl

theorem impl_CardText_eq (c : Int) : impl_CardText.f c = some (cardText c) := by
  unfold impl_CardText.f
  simp only [impl_IsCard_eq, Option.bind_some]
  by_cases h : isCard c = true
  · have hr := card_ranges h
    have h2 := (isCard_iff c).1 h
    have e1 : Int.tmod c 13 = rankOf c := by unfold rankOf; rw [if_pos h, Int.tmod_eq_emod_of_nonneg h2.1]
    have e2 : wrap64 (Int.tdiv c 13) = suitOf c := by unfold suitOf; rw [if_pos h, Int.tdiv_eq_ediv_of_nonneg h2.1, w64 _ (by omega)]
    rw [if_pos h, e1, e2, w64 (rankOf c + 1) (by omega), w64 (suitOf c + 1) (by omega), if_pos (by omega), if_pos (by omega), if_pos (by omega), if_pos (by omega), if_pos (by omega), if_pos (by omega)]
    have hs := cardText_size h
    unfold cardText at hs ⊢
    rw [if_pos h] at hs ⊢
    rw [ByteArray.size_append] at hs
    unfold letter rankLetters suitLetters at hs ⊢
    rw [if_pos (by omega)]
  · unfold cardText
    rw [if_neg h, if_neg h]

theorem impl_listText_ev (l : List Int) (hl : l.length ≤ 1048576000) : Ev (fun k => impl_listText.f k l (-1) (⟨#[63]⟩ : ByteArray)) (handText l) := by
  simp only [impl_listText.f]
  unfold handText
  refine ev_ite (fun h => ev_ret ?_) (fun h => ?_)
  · rw [if_pos (List.eq_nil_of_length_eq_zero (by omega))]
  · rw [if_neg (by rintro rfl; simp at h)]
    refine ev_loop (fun k (s : ByteArray) i => impl_listText.l0 k (-1) ⟨#[63]⟩ s l (l.length : Int) i) l (fun s r => textF s r) (fun s i => s.size ≤ 2 * i) ?_ ?_ ⟨#[]⟩ 0 (by omega) (by decide)
    · rintro s _
      refine ev_unfold (fun k => rfl) ?_
      simp only [impl_listText.l0]
      exact ev_neg (by omega) (ev_ret rfl)
    · rintro s i hi hs ih
      refine ev_unfold (fun k => rfl) ?_
      simp only [impl_listText.l0]
      refine ev_pos (by omega) (ev_pos (by omega) (ev_pos (by omega) (ev_eq (impl_IsCard_eq _) ?_)))
      rw [w64next i (by omega), rd_at l i hi]
      have hq : ∀ q : ByteArray, cardTxt l[i] = q → Ev (fun k => impl_listText.l0 k (-1) ⟨#[63]⟩ (s ++ q) l (l.length : Int) ((i + 1 : Nat) : Int)) (textF s (l[i] :: l.drop (i + 1))) := by
        rintro q rfl
        refine ih _ ?_
        have := cardTxt_size l[i]
        rw [ByteArray.size_append]; omega
      have h63 : (⟨#[63]⟩ : ByteArray).size = 1 := rfl
      refine ev_ite (fun h => ?_) (fun h => ?_)
      · refine ev_eq (impl_CardText_eq _) (ev_pos ?_ (hq _ ?_))
        · rw [cardText_size h]; omega
        · unfold cardTxt; rw [if_pos h]
      · refine ev_ite (fun _ => ev_pos (by omega) (hq _ ?_)) (fun _ => ev_pos (by omega) (hq _ ?_))
        · unfold cardTxt; rw [if_neg h]
        · unfold cardTxt; rw [if_neg h]

theorem impl_HandText_ev (l : List Int) (hl : l.length ≤ 1048576000) : Ev (fun k => impl_HandText.f k l) (handText l) := by
  simp only [impl_HandText.f]
  exact Ev.bind (impl_listText_ev l hl) (Ev.now _)

theorem FnExactHandText : laws_FnExactHandText.Pure := by
  intro l _ _ _
  refine Ev.rounds ?_
  simp only [laws_FnExactHandText.f]
  refine ev_ite (fun _ => Ev.now _) (fun h => ?_)
  have hl : l.length ≤ 1048576000 := by omega
  refine Ev.bind (laws_toIntS_ev l hl) (Ev.bind (spec_HandText_ev l hl) (Ev.bind (laws_toIntS_ev l hl) (Ev.bind (impl_HandText_ev l hl) (ev_pos rfl ?_))))
  exact Ev.bind (laws_toIntS_ev l hl) (Ev.bind (laws_eqIntS_ev l l (by omega)) (ev_pos (by simp) (Ev.now _)))

end Go.Proofs.Ytjalkgjjjebdpaa.Pure
