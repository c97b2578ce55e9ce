/- In the given program FnExactParseHand answers true for every input, by what its functions compute; no condition. -/
import Derived.Test.YtcegnlconafikaaQFnExactParseHandx3
import Derived.Test.YtcegnlconafikaaLib
import Derived.Test.YtcegnlconafikaaCards
import Derived.Test.YtcegnlconafikaaCards2
import Derived.Test.YtcegnlconafikaaCalls
import Derived.Test.YtcegnlconafikaaHands
import Derived.Test.YtcegnlconafikaaSort
import Derived.Test.YtcegnlconafikaaParse
namespace Go.Proofs.Ytcegnlconafikaa.Pure
open Go.RowKit Go.Proofs.Ytcegnlconafikaa.QFnExactParseHand Go.Proofs.YtcegnlconafikaaW.PrintWords Go.Proofs.YtcegnlconafikaaW.PrintLast Go.Proofs.YtcegnlconafikaaW.PrintMore Go.Proofs.Ytcegnlconafikaa.Lib
set_option linter.unusedVariables false
set_option linter.unusedSimpArgs false

theorem laws_eqIntS_ev (a b : List Int) (ha : a.length ≤ 1048576000) : Ev (fun k => laws_eqIntS.f k a b) (decide (a = b)) := by
  simp only [laws_eqIntS.f]
  refine ev_ite (fun hlen => ?_) (fun hne => ev_ret ?_)
  · have hlen' : a.length = b.length := by omega
    have h := ev_loop (fun k (_ : Unit) i => laws_eqIntS.l0 k a b i) a (fun _ r => decide (r = b.drop (a.length - r.length))) (fun _ _ => True) ?_ ?_ () 0 (by omega) trivial
    · refine ev_done h ?_
      simp
    · rintro _ _
      refine ev_unfold (fun k => rfl) ?_
      simp only [laws_eqIntS.l0]
      refine ev_neg (by omega) (ev_ret ?_)
      rw [List.length_nil, Nat.sub_zero, hlen', drop_end]
      simp
    · rintro _ i hi _ ih
      refine ev_unfold (fun k => rfl) ?_
      simp only [laws_eqIntS.l0]
      refine ev_pos (by omega) (ev_pos (by omega) (ev_pos (by omega) ?_))
      rw [w64next i (by omega), rd_at a i hi, rd_at b i (by omega)]
      have e1 : a.length - (a[i] :: a.drop (i + 1)).length = i := by simp; omega
      have e2 : a.length - (a.drop (i + 1)).length = i + 1 := by simp; omega
      refine ev_ite (fun heq => ?_) (fun hne => ev_ret ?_)
      · refine ev_done (ih () trivial) ?_
        rw [e1, e2, drop_at b i (by omega), heq]
        exact decide_eq_decide.2 ⟨fun h => by rw [h], fun h => (List.cons.inj h).2⟩
      · rw [e1, drop_at b i (by omega)]
        exact (decide_eq_false (fun h => hne (List.cons.inj h).1)).symm
  · have : a ≠ b := by rintro rfl; exact hne rfl
    simp [this]

theorem laws_markIntS_ev (l : List Int) (a : Int) (hl : l.length ≤ 1073741824) (ha : 0 ≤ a ∧ a ≤ 1073741824) : Ev (fun k => laws_markIntS.f k l a) (a + (l.length : Int), marks a l.length) := by
  simp only [laws_markIntS.f]
  refine ev_loop (fun k (s : List Int × Int) i => laws_markIntS.l0 k s.1 s.2 i) l (fun _ _ => (a + (l.length : Int), marks a l.length)) (fun s i => s.1.length = l.length ∧ s.2 = a + i ∧ s.1.take i = marks a i) ?_ ?_ (l, a) 0 (by omega) ⟨rfl, by simp, by simp [marks]⟩
  · rintro ⟨s, n⟩ ⟨h1, h2, h3⟩
    simp only at h1 h2 h3
    refine ev_unfold (fun k => rfl) ?_
    simp only [laws_markIntS.l0]
    refine ev_neg (by omega) (ev_ret ?_)
    rw [List.take_of_length_le (by omega)] at h3
    rw [h2, h3]
  · rintro ⟨s, n⟩ i hi ⟨h1, h2, h3⟩ ih
    simp only at h1 h2 h3
    refine ev_unfold (fun k => rfl) ?_
    simp only [laws_markIntS.l0]
    refine ev_pos (by omega) (ev_pos (by omega) ?_)
    rw [w64next i (by omega), Int.toNat_natCast, w64 (n + 1) (by omega)]
    refine ih (s.set i n, n + 1) ⟨by simpa using h1, by simp only; omega, ?_⟩
    simp only [h2]
    exact marks_step a s i (by omega) h3

theorem laws_heldIntS_ev (n : Nat) (a : Int) (hn : n ≤ 1073741824) (ha : 0 ≤ a ∧ a ≤ 1073741824) : Ev (fun k => laws_heldIntS.f k (marks a n) a) (a + (n : Int)) := by
  have hl := marks_length a n
  simp only [laws_heldIntS.f]
  refine ev_loop (fun k (s : Int) i => laws_heldIntS.l0 k (marks a n) s i) (marks a n) (fun _ _ => a + (n : Int)) (fun s i => s = a + i) ?_ ?_ a 0 (by omega) (by simp)
  · rintro s h
    refine ev_unfold (fun k => rfl) ?_
    simp only [laws_heldIntS.l0]
    refine ev_neg (by omega) (ev_ret ?_)
    rw [h, hl]
  · rintro s i hi h ih
    refine ev_unfold (fun k => rfl) ?_
    simp only [laws_heldIntS.l0]
    refine ev_pos (by omega) (ev_pos (by omega) ?_)
    rw [w64next i (by omega), rd_at _ i hi, marks_at, w64 (s + 1) (by omega)]
    refine ev_pos h.symm (ih _ (by omega))

theorem spec_l1In_eq (n a b : Int) : spec_l1In.f n a b = some (inR n a b) := by
  unfold spec_l1In.f inR
  by_cases h : a ≤ n
  · rw [if_pos (by omega)]; simp [h]
  · rw [if_neg (by omega)]; simp [h]

theorem spec_IsCard_eq (c : Int) : spec_IsCard.f c = some (isCard c) := by
  unfold spec_IsCard.f isCard
  rw [spec_l1In_eq]; rfl

theorem spec_RankOf_eq (c : Int) : spec_RankOf.f c = some (rankOf c) := by
  unfold spec_RankOf.f rankOf
  rw [spec_IsCard_eq]
  simp only [Option.bind_some]
  by_cases h : isCard c = true
  · rw [if_pos h, if_pos h, Int.tmod_eq_emod_of_nonneg ((isCard_iff c).1 h).1]
  · rw [if_neg h, if_neg h]

theorem spec_SuitOf_eq (c : Int) : spec_SuitOf.f c = some (suitOf c) := by
  unfold spec_SuitOf.f suitOf
  rw [spec_IsCard_eq]
  simp only [Option.bind_some]
  by_cases h : isCard c = true
  · have h2 := (isCard_iff c).1 h
    rw [if_pos h, if_pos h, Int.tdiv_eq_ediv_of_nonneg h2.1, w64 _ (by omega)]
  · rw [if_neg h, if_neg h]

theorem spec_CardText_eq (c : Int) : spec_CardText.f c = some (cardText c) := by
  unfold spec_CardText.f
  simp only [spec_IsCard_eq, spec_RankOf_eq, spec_SuitOf_eq, Option.bind_some]
  by_cases h : isCard c = true
  · have hr := card_ranges h
    rw [if_pos h, w64 (rankOf c + 1) (by omega), w64 (suitOf c + 1) (by omega), if_pos (by omega), if_pos (by omega), if_pos (by omega), if_pos (by omega), if_pos (by omega), if_pos (by omega)]
    have hs := cardText_size h
    unfold cardText at hs ⊢
    rw [if_pos h] at hs ⊢
    rw [ByteArray.size_append] at hs
    unfold letter rankLetters suitLetters at hs ⊢
    rw [if_pos (by omega)]
  · unfold cardText
    rw [if_neg h, if_neg h]

theorem spec_ParseCard_ev (s : ByteArray) : Ev (fun k => spec_ParseCard.f k s) (parseC s) := by
  have key : ∀ (d i : Nat), i + d = 52 → (0 ≤ parseC s → (i : Int) ≤ parseC s) → Ev (fun k => spec_ParseCard.l0 k s (i : Int)) (parseC s) := by
    intro d
    induction d with
    | zero =>
      intro i hd h
      refine ev_unfold (fun k => rfl) ?_
      simp only [spec_ParseCard.l0]
      refine ev_neg (by omega) (ev_ret ?_)
      by_cases h0 : 0 ≤ parseC s
      · have := h h0; have := (parseC_card h0).1; omega
      · exact (parseC_neg h0).symm
    | succ d ih =>
      intro i hd h
      refine ev_unfold (fun k => rfl) ?_
      simp only [spec_ParseCard.l0]
      rw [w64next i (by omega)]
      refine ev_pos (by omega) (ev_eq (spec_CardText_eq _) (ev_ite (fun h1 => ev_ret ?_) (fun h1 => ih (i + 1) (by omega) ?_)))
      · exact (parseC_of (by omega) (bytes_eq.1 h1)).symm
      · intro h0
        have h2 := h h0
        by_cases e : parseC s = (i : Int)
        · exact absurd (bytes_eq.2 (by rw [← e]; exact (parseC_card h0).2)) h1
        · omega
  simp only [spec_ParseCard.f]
  exact key 52 0 (by omega) (fun h => h)

theorem spec_HasCard_ev (l : List Int) (c : Int) (hl : l.length ≤ 1048576000) : Ev (fun k => spec_HasCard.f k l c) (hasCard l c) := by
  simp only [spec_HasCard.f]
  refine ev_done (ev_loop (fun k (_ : Unit) i => spec_HasCard.l0 k l c i) l (fun _ r => hasCard r c) (fun _ _ => True) ?_ ?_ () 0 (by omega) trivial) rfl
  · rintro s _
    refine ev_unfold (fun k => rfl) ?_
    simp only [spec_HasCard.l0]
    exact ev_neg (by omega) (ev_ret (by simp [hasCard]))
  · rintro s i hi _ ih
    refine ev_unfold (fun k => rfl) ?_
    simp only [spec_HasCard.l0]
    rw [w64next i (by omega), rd_at l i hi]
    refine ev_pos (by omega) (ev_pos (by omega) (ev_ite (fun h => ev_ret ?_) (fun h => ev_done (ih () trivial) ?_)))
    · simp [hasCard, h]
    · have h2 : ¬ c = l[i] := fun e => h e.symm
      simp only [hasCard, List.mem_cons]
      exact decide_eq_decide.2 ⟨fun h => .inr h, fun h => h.resolve_left h2⟩

theorem spec_IsHand_ev (l : List Int) (hl : l.length ≤ 1048576000) : Ev (fun k => spec_IsHand.f k l) (isHand l) := by
  simp only [spec_IsHand.f]
  refine ev_done (ev_loopN (fun k (_ : Unit) i => spec_IsHand.l0 k l i) l.length (fun _ i => handF (l.take i) (l.drop i)) (fun _ _ => True) ?_ ?_ () 0 (by omega) trivial) (by simp [isHand])
  · rintro s _
    refine ev_unfold (fun k => rfl) ?_
    simp only [spec_IsHand.l0]
    refine ev_neg (by omega) (ev_ret ?_)
    rw [drop_end]; rfl
  · rintro s i hi _ ih
    have ht : (l.take i).length ≤ 1048576000 := by simp; omega
    refine ev_unfold (fun k => rfl) ?_
    simp only [spec_IsHand.l0]
    rw [w64next i (by omega), rd_at l i hi, drop_at l i hi, Int.toNat_natCast]
    unfold handF
    refine ev_pos (by omega) (ev_pos (by omega) (ev_eq (spec_IsCard_eq _) (ev_ite (fun h => ?_) (fun h => ev_ret ?_))))
    · refine ev_pos (by omega) (Ev.bind (spec_HasCard_ev _ _ ht) (ev_ite (fun h2 => ev_ret ?_) (fun h2 => ev_done (ih () trivial) ?_)))
      · rw [h2]; simp
      · rw [Bool.not_eq_true] at h2
        rw [h, h2, take_at l i hi]; simp
    · rw [Bool.not_eq_true] at h
      rw [h]; simp

theorem spec_HandText_ev (l : List Int) (hl : l.length ≤ 1048576000) : Ev (fun k => spec_HandText.f k l) (handText l) := by
  simp only [spec_HandText.f]
  refine ev_done (ev_loop (fun k (s : ByteArray) i => spec_HandText.l0 k l s i) l (fun s r => if l = [] then ⟨#[45]⟩ else textF s r) (fun s i => s.size ≤ 2 * i) ?_ ?_ ⟨#[]⟩ 0 (by omega) (by decide)) ?_
  · rintro s _
    refine ev_unfold (fun k => rfl) ?_
    simp only [spec_HandText.l0]
    refine ev_neg (by omega) ?_
    refine ev_ite (fun h => ev_ret ?_) (fun h => ev_ret ?_)
    · rw [if_pos (List.eq_nil_of_length_eq_zero (by omega))]
    · rw [if_neg (by rintro rfl; simp at h)]; rfl
  · rintro s i hi hs ih
    refine ev_unfold (fun k => rfl) ?_
    simp only [spec_HandText.l0]
    refine ev_pos (by omega) (ev_pos (by omega) (ev_eq (spec_IsCard_eq _) ?_))
    rw [w64next i (by omega), rd_at l i hi]
    have hq : ∀ q : ByteArray, cardTxt l[i] = q → Ev (fun k => spec_HandText.l0 k l (s ++ q) ((i + 1 : Nat) : Int)) (if l = [] then ⟨#[45]⟩ else textF s (l[i] :: l.drop (i + 1))) := by
      rintro q rfl
      refine ih _ ?_
      have := cardTxt_size l[i]
      rw [ByteArray.size_append]; omega
    refine ev_ite (fun h => ?_) (fun h => ?_)
    · refine ev_eq (spec_CardText_eq _) (ev_pos ?_ (hq _ ?_))
      · rw [cardText_size h]; omega
      · unfold cardTxt; rw [if_pos h]
    · refine ev_pos (by omega) (hq _ ?_)
      unfold cardTxt; rw [if_neg h]
  · simp [handText]

theorem spec_ParseHand_ev (s : ByteArray) (hs : s.size ≤ 1048576) : Ev (fun k => spec_ParseHand.f k s) (parseHand s) := by
  have key : ∀ (d n : Nat), n + d = s.size / 2 → Ev (fun k => spec_ParseHand.l0 k s (cardsOf s n) ((2 * n : Nat) : Int)) (parseHand s) := by
    intro d
    induction d with
    | zero =>
      intro n hd
      refine ev_unfold (fun k => rfl) ?_
      simp only [spec_ParseHand.l0]
      have hn : n = s.size / 2 := by omega
      subst hn
      rw [w64 (((2 * (s.size / 2) : Nat) : Int) + 1) (by omega)]
      unfold parseHand
      refine ev_neg (by omega) (Ev.bind (spec_IsHand_ev _ (by rw [cardsOf_length]; omega)) (ev_ite (fun h => Ev.bind (spec_HandText_ev _ (by rw [cardsOf_length]; omega)) (ev_ite (fun h2 => ev_ret ?_) (fun h2 => ev_ret ?_))) (fun h => ev_ret ?_)))
      · rw [if_pos h, if_pos (bytes_eq.1 h2)]
      · rw [if_pos h, if_neg (fun e => h2 (bytes_eq.2 e))]
      · rw [if_neg h]
    | succ d ih =>
      intro n hd
      refine ev_unfold (fun k => rfl) ?_
      simp only [spec_ParseHand.l0]
      have e : wrap64 (((2 * n : Nat) : Int) + 2) = ((2 * (n + 1) : Nat) : Int) := by rw [w64 _ (by omega)]; omega
      rw [e, w64 (((2 * n : Nat) : Int) + 1) (by omega)]
      refine ev_pos (by omega) (ev_pos (by omega) (ev_pos (by omega) (ev_pos (by omega) (Ev.bind (spec_ParseCard_ev _) (ev_pos (by rw [cardsOf_length]; omega) ?_)))))
      have e2 : cardsOf s n ++ [parseC (s.extract ((2 * n : Nat) : Int).toNat ((2 * (n + 1) : Nat) : Int).toNat)] = cardsOf s (n + 1) := by
        rw [cardsOf_succ, Int.toNat_natCast, Int.toNat_natCast, show 2 * (n + 1) = 2 * n + 2 by omega]
      rw [e2]
      exact ih (n + 1) (by omega)
  exact key (s.size / 2) 0 (by omega)

theorem strings_IndexByte_eq (s : ByteArray) (c : Int) : strings_IndexByte.f s c = some (idxOf s c) := rfl

theorem impl_ParseCard_eq (s : ByteArray) : impl_ParseCard.f s = some (parseC s) := by
  unfold impl_ParseCard.f parseC
  have e1 : (⟨#[50, 51, 52, 53, 54, 55, 56, 57, 84, 74, 81, 75, 65]⟩ : ByteArray) = rankLetters := rfl
  have e2 : (⟨#[99, 100, 104, 115]⟩ : ByteArray) = suitLetters := rfl
  rw [e1, e2]
  by_cases h : s.size = 2
  · rw [if_pos (by omega), if_pos (by omega), strings_IndexByte_eq, Option.bind_some, if_pos (by omega), strings_IndexByte_eq, Option.bind_some, if_pos h]
    have b0 : bt s 0 = ((s[0]'(by omega)).toNat : Int) := bt_nat s 0 (by omega)
    have b1 : bt s 1 = ((s[1]'(by omega)).toNat : Int) := bt_nat s 1 (by omega)
    have hr : -1 ≤ idxOf rankLetters (bt s 0) ∧ idxOf rankLetters (bt s 0) ≤ 12 := by
      rw [b0]
      rcases rank_idx _ (s[0]'(by omega)).toNat_lt with hr | ⟨r, hr, er, _⟩ <;> omega
    have hu : -1 ≤ idxOf suitLetters (bt s 1) ∧ idxOf suitLetters (bt s 1) ≤ 3 := by
      rw [b1]
      rcases suit_idx _ (s[1]'(by omega)).toNat_lt with hu | ⟨u, hu, eu, _⟩ <;> omega
    by_cases h1 : idxOf rankLetters (bt s 0) < 0
    · rw [if_pos h1, if_pos (.inl h1)]
    · rw [if_neg h1]
      by_cases h2 : idxOf suitLetters (bt s 1) < 0
      · rw [if_pos h2, if_pos (.inr h2)]
      · rw [if_neg h2, if_neg (by omega), w64 (idxOf suitLetters (bt s 1) * 13) (by omega), w64 _ (by omega)]
  · rw [if_neg (by omega), if_neg h]

theorem impl_InRange_eq (n a b : Int) : impl_InRange.f n a b = some (inR n a b) := by
  unfold impl_InRange.f inR
  by_cases h : a ≤ n
  · rw [if_pos (by omega)]; simp [h]
  · rw [if_neg (by omega)]; simp [h]

theorem impl_IsCard_eq (c : Int) : impl_IsCard.f c = some (isCard c) := by
  unfold impl_IsCard.f isCard
  rw [impl_InRange_eq]; rfl

theorem impl_IsHand_ev (l : List Int) (hl : l.length ≤ 1048576000) : Ev (fun k => impl_IsHand.f k l) (isHand l) := by
  simp only [impl_IsHand.f]
  refine ev_done (ev_loopN (fun k (s : List Bool) i => impl_IsHand.l0 k l s i) l.length (fun _ i => handF (l.take i) (l.drop i)) (fun s i => s.length = 52 ∧ ∀ c : Nat, c < 52 → s.getD c false = decide ((c : Int) ∈ l.take i)) ?_ ?_ _ 0 (by omega) ⟨by simp, fun c hc => by rw [List.getD_eq_getElem?_getD, List.getElem?_replicate, if_pos hc]; simp⟩) (by simp [isHand])
  · rintro s _
    refine ev_unfold (fun k => rfl) ?_
    simp only [impl_IsHand.l0]
    refine ev_neg (by omega) (ev_ret ?_)
    rw [drop_end]; rfl
  · rintro s i hi ⟨h52, hs⟩ ih
    refine ev_unfold (fun k => rfl) ?_
    simp only [impl_IsHand.l0]
    rw [w64next i (by omega), rd_at l i hi, drop_at l i hi]
    unfold handF
    refine ev_pos (by omega) (ev_pos (by omega) (ev_eq (impl_IsCard_eq _) (ev_ite (fun h => ?_) (fun h => ev_ret ?_))))
    · have hc := (isCard_iff _).1 h
      have he := hs l[i].toNat (by omega)
      rw [show ((l[i].toNat : Nat) : Int) = l[i] by omega] at he
      refine ev_pos (by omega) (ev_pos (by omega) (ev_ite (fun h2 => ev_ret ?_) (fun h2 => ev_done (ih _ ⟨by simpa using h52, fun c hc2 => ?_⟩) ?_)))
      · rw [h2] at he
        unfold hasCard
        rw [← he]; simp
      · rw [take_at l i hi, List.getD_eq_getElem?_getD, List.getElem?_set]
        have h3 := hs c hc2
        rw [List.getD_eq_getElem?_getD] at h3
        by_cases hci : l[i].toNat = c
        · rw [if_pos hci, if_pos (by omega)]
          have : (c : Int) = l[i] := by omega
          exact (decide_eq_true (List.mem_append.2 (.inr (by rw [this]; exact List.mem_singleton.2 rfl)))).symm
        · rw [if_neg hci, h3]
          have : ¬ (c : Int) = l[i] := by omega
          exact decide_eq_decide.2 ⟨fun h => List.mem_append.2 (.inl h), fun h => (List.mem_append.1 h).resolve_right (fun h => this (List.mem_singleton.1 h))⟩
      · rw [Bool.not_eq_true] at h2
        rw [h2] at he
        unfold hasCard
        rw [h, ← he, take_at l i hi]; simp
    · rw [Bool.not_eq_true] at h
      rw [h]; simp

theorem impl_ParseHand_ev (s : ByteArray) (hs : s.size ≤ 1048576) : Ev (fun k => impl_ParseHand.f k s) (parseHand s) := by
  have l0 : s.size % 2 = 0 → Ev (fun k => impl_ParseHand.l0 k s [] 0) (if isHand (cardsOf s (s.size / 2)) = true then (cardsOf s (s.size / 2), true) else ([], false)) := by
    intro he
    have key : ∀ (d n : Nat), n + d = s.size / 2 → Ev (fun k => impl_ParseHand.l0 k s (cardsOf s n) ((2 * n : Nat) : Int)) (if isHand (cardsOf s (s.size / 2)) = true then (cardsOf s (s.size / 2), true) else ([], false)) := by
      intro d
      induction d with
      | zero =>
        intro n hd
        refine ev_unfold (fun k => rfl) ?_
        simp only [impl_ParseHand.l0]
        have hn : n = s.size / 2 := by omega
        subst hn
        refine ev_neg (by omega) (Ev.bind (impl_IsHand_ev _ (by rw [cardsOf_length]; omega)) (ev_ite (fun h => ev_ret ?_) (fun h => ev_ret ?_)))
        · rw [if_pos h]
        · rw [if_neg h]
      | succ d ih =>
        intro n hd
        refine ev_unfold (fun k => rfl) ?_
        simp only [impl_ParseHand.l0]
        have e : wrap64 (((2 * n : Nat) : Int) + 2) = ((2 * (n + 1) : Nat) : Int) := by rw [w64 _ (by omega)]; omega
        rw [e]
        refine ev_pos (by omega) (ev_pos (by omega) (ev_pos (by omega) (ev_pos (by omega) (ev_eq (impl_ParseCard_eq _) (ev_pos (by rw [cardsOf_length]; omega) ?_)))))
        have e2 : cardsOf s n ++ [parseC (s.extract ((2 * n : Nat) : Int).toNat ((2 * (n + 1) : Nat) : Int).toNat)] = cardsOf s (n + 1) := by
          rw [cardsOf_succ, Int.toNat_natCast, Int.toNat_natCast, show 2 * (n + 1) = 2 * n + 2 by omega]
        rw [e2]
        exact ih (n + 1) (by omega)
    exact key (s.size / 2) 0 (by omega)
  have j0 : ∀ b, (b = true → parseHand s = ([], false)) → (b = false → s.size % 2 = 0 ∧ s.size ≠ 0) → Ev (fun k => impl_ParseHand.j0 k s [] b) (parseHand s) := by
    intro b h1 h2
    refine ev_unfold (fun k => rfl) ?_
    simp only [impl_ParseHand.j0]
    refine ev_ite (fun h => ev_ret (h1 h).symm) (fun h => ?_)
    have h3 := h2 (by simpa using h)
    rw [parse_even h3.1 h3.2]
    exact l0 h3.1
  simp only [impl_ParseHand.f, Option.bind_some]
  have el : ∀ l : List UInt8, (⟨l.toArray⟩ : ByteArray).toList = l := fun l => by rw [Go.Lib.toList_data]
  refine ev_ite (fun h => ev_ret ?_) (fun h => ?_)
  · have : s = ⟨#[45]⟩ := bytes_eq.1 (by rw [h]; exact (el [45]).symm)
    rw [this, parse_dash]
  · have hne : s ≠ ⟨#[45]⟩ := fun e => h (by rw [e]; exact el [45])
    refine ev_ite (fun h2 => j0 _ (fun _ => ?_) (fun e => by cases e)) (fun h2 => ?_)
    · have : s = ⟨#[]⟩ := bytes_eq.1 (by rw [h2]; exact (el []).symm)
      rw [this, parse_none]
    · have h0 : s.size ≠ 0 := fun e => h2 (by
        have e1 : s = ⟨#[]⟩ := ByteArray.ext (Array.eq_empty_of_size_eq_zero e)
        rw [e1]; exact el [])
      refine ev_ite (fun h3 => j0 _ (fun e => ?_) (fun e => ⟨by omega, h0⟩)) (fun h3 => j0 _ (fun _ => parse_odd (by omega) hne) (fun e => by cases e))
      have := of_decide_eq_true e
      exact parse_long (by omega)

theorem FnExactParseHand : laws_FnExactParseHand.Pure := by
  intro s _
  refine Ev.rounds ?_
  simp only [laws_FnExactParseHand.f]
  refine ev_ite (fun _ => Ev.now _) (fun h => ?_)
  have hs : s.size ≤ 1048576 := by omega
  have hg := parseHand_length s
  have eqs := laws_eqIntS_ev (parseHand s).1 (parseHand s).1 (by omega)
  have ei := impl_ParseHand_ev s hs
  have j0 : Ev (fun k => laws_FnExactParseHand.j0 k s (parseHand s).1 (parseHand s).2 (parseHand s).1 false) true := by
    refine ev_unfold (fun k => rfl) ?_
    simp only [laws_FnExactParseHand.j0]
    refine ev_neg (by simp) (Ev.bind (laws_markIntS_ev _ 1 (by omega) (by omega)) (Ev.bind (laws_heldIntS_ev _ 1 (by omega) (by omega)) (ev_neg (by omega) (ev_pos rfl (Ev.bind ei (Ev.bind eqs (ev_pos (by simp) ?_)))))))
    refine ev_unfold (fun k => rfl) ?_
    simp only [laws_FnExactParseHand.j1]
    refine ev_neg (by simp) (Ev.bind (laws_heldIntS_ev _ 1 (by omega) (by omega)) (ev_neg (by omega) (ev_pos rfl (Ev.now _))))
  refine Ev.bind (spec_ParseHand_ev s hs) (Ev.bind ei (Ev.bind eqs (ev_pos (by simp) ?_)))
  refine ev_done (Ev.congr (fun k => ?_) j0) rfl
  simp

end Go.Proofs.Ytcegnlconafikaa.Pure
