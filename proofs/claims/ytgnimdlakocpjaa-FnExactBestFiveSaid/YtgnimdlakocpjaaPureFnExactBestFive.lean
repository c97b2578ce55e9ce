/- In the given program FnExactBestFive answers true for every input, by what its functions compute; no condition. -/
import Derived.Test.YtgnimdlakocpjaaQFnExactBestFivex12
import Derived.Test.YtgnimdlakocpjaaLib
import Derived.Test.YtgnimdlakocpjaaCards
import Derived.Test.YtgnimdlakocpjaaCards2
import Derived.Test.YtgnimdlakocpjaaCalls
import Derived.Test.YtgnimdlakocpjaaHands
import Derived.Test.YtgnimdlakocpjaaSort
import Derived.Test.YtgnimdlakocpjaaKinds
import Derived.Test.YtgnimdlakocpjaaFive
namespace Go.Proofs.Ytgnimdlakocpjaa.Pure
open Go.RowKit Go.Proofs.Ytgnimdlakocpjaa.QFnExactBestFive Go.Proofs.YtgnimdlakocpjaaW.PrintWords Go.Proofs.YtgnimdlakocpjaaW.PrintLast Go.Proofs.YtgnimdlakocpjaaW.PrintMore Go.Proofs.Ytgnimdlakocpjaa.Lib
set_option linter.unusedVariables false
set_option linter.unusedSimpArgs false

theorem spec_l1In_eq (n a b : Int) : spec_l1In.f n a b = some (inR n a b) := by
  unfold spec_l1In.f inR
  by_cases h : a ≤ n
  · rw [if_pos (by omega)]; simp [h]
  · rw [if_neg (by omega)]; simp [h]

theorem spec_IsCard_eq (c : Int) : spec_IsCard.f c = some (isCard c) := by
  unfold spec_IsCard.f isCard
  rw [spec_l1In_eq]; rfl

theorem spec_HasCard_ev (l : List Int) (c : Int) (hl : l.length ≤ 1048576000) : Ev (fun k => spec_HasCard.f k l c) (hasCard l c) := by
  simp only [spec_HasCard.f]
  refine ev_done (ev_loop (fun k (_ : Unit) i => spec_HasCard.l0 k l c i) l (fun _ r => hasCard r c) (fun _ _ => True) ?_ ?_ () 0 (by omega) trivial) rfl
  · rintro s _
    refine ev_unfold (fun k => rfl) ?_
    simp only [spec_HasCard.l0]
    exact ev_neg (by omega) (ev_ret (by simp [hasCard]))
  · rintro s i hi _ ih
    refine ev_unfold (fun k => rfl) ?_
    simp only [spec_HasCard.l0]
    rw [w64next i (by omega), rd_at l i hi]
    refine ev_pos (by omega) (ev_pos (by omega) (ev_ite (fun h => ev_ret ?_) (fun h => ev_done (ih () trivial) ?_)))
    · simp [hasCard, h]
    · have h2 : ¬ c = l[i] := fun e => h e.symm
      simp only [hasCard, List.mem_cons]
      exact decide_eq_decide.2 ⟨fun h => .inr h, fun h => h.resolve_left h2⟩

theorem spec_IsHand_ev (l : List Int) (hl : l.length ≤ 1048576000) : Ev (fun k => spec_IsHand.f k l) (isHand l) := by
  simp only [spec_IsHand.f]
  refine ev_done (ev_loopN (fun k (_ : Unit) i => spec_IsHand.l0 k l i) l.length (fun _ i => handF (l.take i) (l.drop i)) (fun _ _ => True) ?_ ?_ () 0 (by omega) trivial) (by simp [isHand])
  · rintro s _
    refine ev_unfold (fun k => rfl) ?_
    simp only [spec_IsHand.l0]
    refine ev_neg (by omega) (ev_ret ?_)
    rw [drop_end]; rfl
  · rintro s i hi _ ih
    have ht : (l.take i).length ≤ 1048576000 := by simp; omega
    refine ev_unfold (fun k => rfl) ?_
    simp only [spec_IsHand.l0]
    rw [w64next i (by omega), rd_at l i hi, drop_at l i hi, Int.toNat_natCast]
    unfold handF
    refine ev_pos (by omega) (ev_pos (by omega) (ev_eq (spec_IsCard_eq _) (ev_ite (fun h => ?_) (fun h => ev_ret ?_))))
    · refine ev_pos (by omega) (Ev.bind (spec_HasCard_ev _ _ ht) (ev_ite (fun h2 => ev_ret ?_) (fun h2 => ev_done (ih () trivial) ?_)))
      · rw [h2]; simp
      · rw [Bool.not_eq_true] at h2
        rw [h, h2, take_at l i hi]; simp
    · rw [Bool.not_eq_true] at h
      rw [h]; simp

theorem spec_Sorted_put (l s : List Int) (i q : Nat) (hi : i < l.length) (hq : q ≤ s.length) (hs : s.length ≤ 1048576000) : spec_Sorted.put8 l s (i : Int) (q : Int) = some (insAt s q l[i]) := by
  have e2 : ([] ++ s.take q ++ [l[i]]).length ≤ 1048576001 := by simp; omega
  unfold spec_Sorted.put8
  simp only [Option.bind_some, Int.toNat_natCast]
  rw [rd_at l i hi]
  simp only [List.nil_append, List.length_nil]
  repeat rw [if_pos (by first | omega | (simp; omega))]
  unfold insAt
  rfl
theorem spec_Sorted_ev (l : List Int) (hl : l.length ≤ 1048576000) : Ev (fun k => spec_Sorted.f k l) (sorted l) := by
  simp only [spec_Sorted.f]
  refine ev_done (ev_loop (fun k (s : List Int) i => spec_Sorted.l0 k l s i) l (fun s r => sortF s r) (fun s i => s.length = i) ?_ ?_ [] 0 (by omega) rfl) rfl
  · rintro s _
    refine ev_unfold (fun k => rfl) ?_
    simp only [spec_Sorted.l0]
    exact ev_neg (by omega) (ev_ret rfl)
  · rintro s i hi hs ih
    have l1 : ∀ q : Nat, q ≤ s.length → Ev (fun k => spec_Sorted.l1 k l s (i : Int) (q : Int)) (sortF (insAt s (backF s l[i] q) l[i]) (l.drop (i + 1))) := by
      have fin : ∀ q : Nat, q ≤ s.length → Ev (fun k => (spec_Sorted.put8 l s (i : Int) (q : Int)).bind fun y => (spec_Sorted.l0 k l y (wrap64 ((i : Int) + 1)))) (sortF (insAt s q l[i]) (l.drop (i + 1))) := by
        intro q hq
        refine ev_eq (spec_Sorted_put l s i q hi hq (by omega)) ?_
        rw [w64next i (by omega)]
        refine ih _ ?_
        rw [insAt_length _ _ _ hq, hs]
      intro q
      induction q with
      | zero =>
        intro hq
        refine ev_unfold (fun k => rfl) ?_
        simp only [spec_Sorted.l1]
        refine ev_neg (by omega) ?_
        exact fin 0 (by omega)
      | succ q ihq =>
        intro hq
        refine ev_unfold (fun k => rfl) ?_
        simp only [spec_Sorted.l1]
        have e1 : wrap64 (((q + 1 : Nat) : Int) - 1) = (q : Int) := by rw [w64 _ (by omega)]; omega
        rw [e1, rd_at l i hi]
        refine ev_pos (by omega) (ev_pos (by omega) (ev_pos (by omega) (ev_pos (by omega) (ev_pos (by omega) ?_))))
        unfold backF
        refine ev_ite (fun h => ?_) (fun h => ?_)
        · rw [if_pos h]; exact ihq (by omega)
        · rw [if_neg h]; exact fin (q + 1) hq
    refine ev_unfold (fun k => rfl) ?_
    simp only [spec_Sorted.l0]
    exact ev_pos (by omega) (l1 s.length (Nat.le_refl _))

theorem spec_RankOf_eq (c : Int) : spec_RankOf.f c = some (rankOf c) := by
  unfold spec_RankOf.f rankOf
  rw [spec_IsCard_eq]
  simp only [Option.bind_some]
  by_cases h : isCard c = true
  · rw [if_pos h, if_pos h, Int.tmod_eq_emod_of_nonneg ((isCard_iff c).1 h).1]
  · rw [if_neg h, if_neg h]

theorem spec_l14Count_ev (l : List Int) (hc : ∀ c ∈ l, isCard c = true) (hl : l.length ≤ 1048576000) : Ev (fun k => spec_l14Count.f k l) (cnt l) := by
  simp only [spec_l14Count.f]
  refine ev_pos (by omega) ?_
  refine ev_done (ev_loop (fun k (s : List Int) i => spec_l14Count.l0 k l s i) l (fun s r => cntF s r) (fun s i => s.length = 13 ∧ ∀ x ∈ s, 0 ≤ x ∧ x ≤ (i : Int)) ?_ ?_ (List.replicate 13 0) 0 (by omega) ⟨by simp, by intro x hx; rw [List.mem_replicate] at hx; omega⟩) rfl
  · rintro s _
    refine ev_unfold (fun k => rfl) ?_
    simp only [spec_l14Count.l0]
    exact ev_neg (by omega) (ev_ret rfl)
  · rintro s i hi ⟨h1, h2⟩ ih
    refine ev_unfold (fun k => rfl) ?_
    simp only [spec_l14Count.l0]
    rw [w64next i (by omega), rd_at l i hi]
    have hr : 0 ≤ rankOf l[i] ∧ rankOf l[i] ≤ 12 := by
      have := (isCard_iff l[i]).1 (hc _ (List.getElem_mem hi))
      unfold rankOf; rw [if_pos (hc _ (List.getElem_mem hi))]; omega
    refine ev_pos (by omega) (ev_pos (by omega) (ev_eq (spec_RankOf_eq _) (ev_pos (by omega) (ev_pos (by omega) ?_))))
    have hb : 0 ≤ s.getD (rankOf l[i]).toNat 0 ∧ s.getD (rankOf l[i]).toNat 0 ≤ (i : Int) := by
      have hq : (rankOf l[i]).toNat < s.length := by omega
      rw [List.getD_eq_getElem?_getD, List.getElem?_eq_getElem hq]
      exact h2 _ (List.getElem_mem hq)
    rw [show rd s (rankOf l[i]) = s.getD (rankOf l[i]).toNat 0 from rfl, w64 _ (by omega)]
    unfold cntF
    refine ih _ ⟨by rw [List.length_set]; exact h1, fun x hx => ?_⟩
    rcases List.mem_or_eq_of_mem_set hx with h | rfl
    · have := h2 x h; omega
    · omega

theorem spec_l14Straight_ev (n : List Int) (hn : n.length = 13) : Ev (fun k => spec_l14Straight.f k n) (strF n 10) := by
  have l0 : ∀ m : Nat, m ≤ 10 → Ev (fun k => spec_l14Straight.l0 k n ((m : Int) + 2)) (strF n m) := by
    intro m
    induction m with
    | zero =>
      intro _
      refine ev_unfold (fun k => rfl) ?_
      simp only [spec_l14Straight.l0]
      exact ev_neg (by omega) (ev_ret rfl)
    | succ m ih =>
      intro hm
      have ih := ih (by omega)
      have last : ∀ b : Bool, Ev (fun k => spec_l14Straight.l1 k n ((m : Int) + 3) b 5) (if b = true then ((m + 3 : Nat) : Int) else strF n m) := by
        intro b
        refine ev_unfold (fun k => rfl) ?_
        simp only [spec_l14Straight.l1]
        refine ev_neg (by omega) (ev_ite (fun h => ?_) (fun h => ?_))
        · rw [if_pos h]; exact ev_ret (by omega)
        · rw [if_neg h, show wrap64 ((m : Int) + 3 - 1) = (m : Int) + 2 by rw [w64 _ (by omega)]; omega]; exact ih
      have step : ∀ (q : Nat) (_ : q < 5) (V : Bool → Int), (∀ b, Ev (fun k => spec_l14Straight.l1 k n ((m : Int) + 3) b ((q + 1 : Nat) : Int)) (V b)) → ∀ b, Ev (fun k => spec_l14Straight.l1 k n ((m : Int) + 3) b (q : Int)) (V (b && strT n (m + 3) q)) := by
        intro q hq V hV b
        refine ev_unfold (fun k => rfl) ?_
        simp only [spec_l14Straight.l1]
        rw [w64next q (by omega), show wrap64 ((m : Int) + 3 - (q : Int)) = (m : Int) + 3 - q by rw [w64 _ (by omega)]]
        refine ev_pos (by omega) (ev_ite (fun h => ?_) (fun h => ?_))
        · refine ev_ite (fun hb => ?_) (fun hb => ?_)
          · refine ev_pos (by omega) ?_
            have e : (rd n 12 == 1) = (b && strT n (m + 3) q) := by
              rw [hb, Bool.true_and]; unfold strT; rw [if_pos (by omega)]; rfl
            rw [e]; exact hV _
          · rw [Bool.not_eq_true] at hb; rw [hb]; exact hV _
        · refine ev_ite (fun hb => ?_) (fun hb => ?_)
          · refine ev_pos (by omega) (ev_pos (by omega) ?_)
            have e : (rd n ((m : Int) + 3 - q) == 1) = (b && strT n (m + 3) q) := by
              rw [hb, Bool.true_and]; unfold strT; rw [if_neg (by omega)]
              unfold rd
              rw [show ((m : Int) + 3 - (q : Int)).toNat = m + 3 - q by omega]; rfl
            rw [e]; exact hV _
          · rw [Bool.not_eq_true] at hb; rw [hb]; exact hV _
      have all := step 0 (by omega) _ (step 1 (by omega) _ (step 2 (by omega) _ (step 3 (by omega) _ (step 4 (by omega) _ last)))) true
      refine ev_unfold (fun k => rfl) ?_
      simp only [spec_l14Straight.l0]
      refine ev_pos (by omega) ?_
      rw [show ((m + 1 : Nat) : Int) + 2 = (m : Int) + 3 by omega]
      exact all
  have := l0 10 (by omega)
  simp only [spec_l14Straight.f]
  exact this

theorem spec_SuitOf_eq (c : Int) : spec_SuitOf.f c = some (suitOf c) := by
  unfold spec_SuitOf.f suitOf
  rw [spec_IsCard_eq]
  simp only [Option.bind_some]
  by_cases h : isCard c = true
  · have h2 := (isCard_iff c).1 h
    rw [if_pos h, if_pos h, Int.tdiv_eq_ediv_of_nonneg h2.1, w64 _ (by omega)]
  · rw [if_neg h, if_neg h]

theorem spec_l14Flush_ev (l : List Int) (hl : l.length ≤ 1048576000) (hp : 0 < l.length) : Ev (fun k => spec_l14Flush.f k l) (flushOf l) := by
  simp only [spec_l14Flush.f]
  have h0 := ev_loop (fun k (_ : Unit) i => spec_l14Flush.l0 k l i) l (fun _ r => r.all fun c => decide (suitOf c = suitOf (rd l 0))) (fun _ _ => True) (by
    rintro s _
    refine ev_unfold (fun k => rfl) ?_
    simp only [spec_l14Flush.l0]
    exact ev_neg (by omega) (ev_ret rfl)) (by
    rintro s i hi _ ih
    refine ev_unfold (fun k => rfl) ?_
    simp only [spec_l14Flush.l0]
    rw [w64next i (by omega), rd_at l i hi, List.all_cons]
    refine ev_pos (by omega) (ev_pos (by omega) (ev_eq (spec_SuitOf_eq _) (ev_pos (by omega) (ev_eq (spec_SuitOf_eq _) (ev_ite (fun h => ?_) (fun h => ev_ret ?_))))))
    · rw [show decide (suitOf l[i] = suitOf (rd l 0)) = true from decide_eq_true h]; exact ih () trivial
    · rw [show decide (suitOf l[i] = suitOf (rd l 0)) = false from decide_eq_false h]; rfl) () 1 (by omega) trivial
  refine ev_done h0 ?_
  unfold flushOf
  have e : l.all (fun c => decide (suitOf c = suitOf (rd l 0))) = (l[0] :: l.drop 1).all fun c => decide (suitOf c = suitOf (rd l 0)) := by
    rw [← drop_at l 0 hp]; rfl
  rw [e, List.all_cons, show rd l 0 = l[0] from rd_at l 0 hp]
  simp

theorem spec_l14Has_ev (n : List Int) (c : Int) (hn : n.length ≤ 1000) : Ev (fun k => spec_l14Has.f k n c) (hasF n c) := by
  simp only [spec_l14Has.f]
  refine ev_done (ev_loop (fun k (s : Int) i => spec_l14Has.l0 k n c s i) n (fun s r => s + hasF r c) (fun s i => 0 ≤ s ∧ s ≤ i) ?_ ?_ 0 0 (by omega) ⟨by omega, by omega⟩) (by simp)
  · rintro s _
    refine ev_unfold (fun k => rfl) ?_
    simp only [spec_l14Has.l0]
    exact ev_neg (by omega) (ev_ret (by simp [hasF]))
  · rintro s i hi ⟨h1, h2⟩ ih
    refine ev_unfold (fun k => rfl) ?_
    simp only [spec_l14Has.l0]
    rw [w64next i (by omega), rd_at n i hi, w64 (s + 1) (by omega)]
    have e : hasF (n[i] :: n.drop (i + 1)) c = (if n[i] = c then 1 else 0) + hasF (n.drop (i + 1)) c := by
      unfold hasF; rw [List.filter_cons]
      by_cases h : n[i] = c
      · simp [h]; omega
      · simp [h]
    rw [e]
    refine ev_pos (by omega) (ev_pos (by omega) (ev_ite (fun h => ?_) (fun h => ?_)))
    · rw [if_pos h]; exact ev_done (ih _ ⟨by omega, by omega⟩) (by omega)
    · rw [if_neg h]; exact ev_done (ih _ ⟨by omega, by omega⟩) (by omega)

theorem spec_KindOf_ev (l : List Int) (hl : l.length ≤ 1048576000) : Ev (fun k => spec_KindOf.f k l) (kindOf l) := by
  have kn := cnt_length l
  have j2 : ∀ b, l.length = 5 → isHand l = true → ((decide (strF (cnt l) 10 ≥ 0) && flushOf l) = false) → hasF (cnt l) 4 ≠ 1 → b = (decide (hasF (cnt l) 3 = 1) && decide (hasF (cnt l) 2 = 1)) → Ev (fun k => spec_KindOf.j2 k l (cnt l) b) (kindN (cnt l) (flushOf l)) := by
    intro b h5 hh h1 h2 hb
    refine ev_unfold (fun k => rfl) ?_
    simp only [spec_KindOf.j2]
    unfold kindN kindS
    rw [if_neg (by rw [h1]; simp), if_neg h2, ← hb]
    refine ev_ite (fun h => by rw [if_pos h]; exact Ev.now _) (fun h => ?_)
    rw [if_neg h]
    refine Ev.bind (spec_l14Flush_ev l hl (by omega)) (ev_ite (fun h => by rw [if_pos h]; exact Ev.now _) (fun h => ?_))
    rw [if_neg h]
    refine Ev.bind (spec_l14Straight_ev _ kn) (ev_ite (fun h => by rw [if_pos h]; exact Ev.now _) (fun h => ?_))
    rw [if_neg h]
    refine Ev.bind (spec_l14Has_ev _ _ (by omega)) (ev_ite (fun h => by rw [if_pos h]; exact Ev.now _) (fun h => ?_))
    rw [if_neg h]
    refine Ev.bind (spec_l14Has_ev _ _ (by omega)) (ev_ite (fun h => by rw [if_pos h]; exact Ev.now _) (fun h => ?_))
    rw [if_neg h]
    refine Ev.bind (spec_l14Has_ev _ _ (by omega)) (ev_ite (fun h => by rw [if_pos h]; exact Ev.now _) (fun h => ?_))
    rw [if_neg h]
    exact Ev.now _
  have j1 : ∀ b, l.length = 5 → isHand l = true → b = (decide (strF (cnt l) 10 ≥ 0) && flushOf l) → Ev (fun k => spec_KindOf.j1 k l (cnt l) b) (kindN (cnt l) (flushOf l)) := by
    intro b h5 hh hb
    refine ev_unfold (fun k => rfl) ?_
    simp only [spec_KindOf.j1]
    refine ev_ite (fun h => ev_ret ?_) (fun h => ?_)
    · unfold kindN kindS; rw [if_pos (by rw [← hb]; exact h)]
    · rw [Bool.not_eq_true] at h
      refine Ev.bind (spec_l14Has_ev _ _ (by omega)) (ev_ite (fun h2 => ev_ret ?_) (fun h2 => ?_))
      · unfold kindN kindS; rw [if_neg (by rw [← hb, h]; simp), if_pos h2]
      · refine Ev.bind (spec_l14Has_ev _ _ (by omega)) (ev_ite (fun h3 => ?_) (fun h3 => ?_))
        · refine Ev.bind (spec_l14Has_ev _ _ (by omega)) (j2 _ h5 hh (by rw [← hb]; exact h) h2 ?_)
          rw [decide_eq_true h3, Bool.true_and]; rfl
        · refine j2 _ h5 hh (by rw [← hb]; exact h) h2 ?_
          rw [decide_eq_false h3]; rfl
  have j0 : ∀ b, (b = false → isHand l = true ∧ l.length = 5) → (b = true → ¬ (isHand l && decide (l.length = 5)) = true) → Ev (fun k => spec_KindOf.j0 k l b) (kindOf l) := by
    intro b h1 h2
    refine ev_unfold (fun k => rfl) ?_
    simp only [spec_KindOf.j0]
    unfold kindOf
    refine ev_ite (fun h => ev_ret ?_) (fun h => ?_)
    · rw [if_neg (h2 h)]
    · rw [Bool.not_eq_true] at h
      obtain ⟨hh, h5⟩ := h1 h
      rw [if_pos (by rw [hh, decide_eq_true h5]; rfl)]
      refine Ev.bind (spec_l14Count_ev l ((isHand_iff l).1 hh).1 hl) (Ev.bind (spec_l14Straight_ev _ kn) (ev_ite (fun h3 => ?_) (fun h3 => ?_)))
      · refine Ev.bind (spec_l14Flush_ev l hl (by omega)) (j1 _ h5 hh ?_)
        rw [decide_eq_true h3, Bool.true_and]
      · refine j1 _ h5 hh ?_
        rw [decide_eq_false h3, Bool.false_and]
  simp only [spec_KindOf.f]
  refine Ev.bind (spec_IsHand_ev l hl) (ev_ite (fun h => ?_) (fun h => ?_))
  · refine j0 _ (fun e => ⟨h, ?_⟩) (fun e => ?_)
    · simp at e; omega
    · simp at e; simp [h]; omega
  · refine j0 _ (fun e => by simp at e) (fun _ => ?_)
    simp [h]

theorem spec_KeyOf_ev (l : List Int) (hl : l.length ≤ 1048576000) : Ev (fun k => spec_KeyOf.f k l) (handKey l) := by
  have kn := cnt_length l
  have l1 : ∀ (n : List Int), n.length = 13 → ∀ o : List Int, o.length ≤ 1 → Ev (fun k => spec_KeyOf.l0 k n o 4) (o ++ rkOf n) := by
    intro n hn o ho
    have z : ∀ x : List Int, Ev (fun k => spec_KeyOf.l0 k n x ((0 : Nat) : Int)) x := by
      intro x
      refine ev_unfold (fun k => rfl) ?_
      simp only [spec_KeyOf.l0]
      exact ev_neg (by omega) (Ev.now _)
    have up : ∀ (c q : Nat) (_ : c ≤ 100) (_ : q ≤ 900) (V : List Int → List Int), (∀ x : List Int, x.length ≤ q + 13 → Ev (fun k => spec_KeyOf.l0 k n x (c : Int)) (V x)) → ∀ x : List Int, x.length ≤ q → Ev (fun k => spec_KeyOf.l0 k n x ((c + 1 : Nat) : Int)) (V (x ++ rkDown n ((c : Int) + 1) 13)) := by
      intro c q hc2 hq V hV x hx
      refine ev_unfold (fun k => rfl) ?_
      simp only [spec_KeyOf.l0]
      refine ev_pos (by omega) ?_
      have key : ∀ m : Nat, m ≤ 13 → ∀ x : List Int, x.length + m ≤ q + 13 → Ev (fun k => spec_KeyOf.l1 k n x ((c : Int) + 1) ((m : Int) - 1)) (V (x ++ rkDown n ((c : Int) + 1) m)) := by
        intro m
        induction m with
        | zero =>
          intro _ x hx
          refine ev_unfold (fun k => rfl) ?_
          simp only [spec_KeyOf.l1]
          refine ev_neg (by omega) ?_
          rw [show wrap64 ((c : Int) + 1 - 1) = (c : Int) by rw [w64 _ (by omega)]; omega]
          simpa [rkDown] using hV x (by omega)
        | succ m ih =>
          intro hm x hx
          refine ev_unfold (fun k => rfl) ?_
          simp only [spec_KeyOf.l1]
          rw [show ((m + 1 : Nat) : Int) - 1 = (m : Int) by omega, show wrap64 ((m : Int) - 1) = (m : Int) - 1 by rw [w64 _ (by omega)]]
          refine ev_pos (by omega) (ev_pos (by omega) (ev_pos (by omega) ?_))
          unfold rkDown
          rw [show rd n (m : Int) = n.getD m 0 by unfold rd; rw [Int.toNat_natCast]]
          refine ev_ite (fun h => ?_) (fun h => ?_)
          · rw [if_pos h]
            refine ev_pos (by omega) ?_
            refine ev_done (ih (by omega) (x ++ [(m : Int)]) (by simp; omega)) (by simp)
          · rw [if_neg h]
            exact ih (by omega) x (by omega)
      have := key 13 (by omega) x (by omega)
      simpa using this
    have u1 := up 0 60 (by omega) (by omega) _ (fun x hx => z x)
    have u2 := up 1 40 (by omega) (by omega) _ (fun x hx => u1 x (by omega))
    have u3 := up 2 20 (by omega) (by omega) _ (fun x hx => u2 x (by omega))
    have u4 := up 3 1 (by omega) (by omega) _ (fun x hx => u3 x (by omega))
    refine ev_done (u4 o ho) ?_
    simp [rkOf]
  have j0 : isHand l = true → l.length = 5 → ∀ b, b = decide (kindOf l = 4 ∨ kindOf l = 8) → Ev (fun k => spec_KeyOf.j0 k (kindOf l) (cnt l) b) (if strF (cnt l) 10 ≥ 0 then [kindOf l, strF (cnt l) 10] else kindOf l :: rkOf (cnt l)) := by
    intro hh h5 b hb
    have hok := cnt_ok hh h5
    have ek : kindOf l = kindN (cnt l) (flushOf l) := by unfold kindOf; rw [if_pos (by rw [hh, decide_eq_true h5]; rfl)]
    have hq := hok.2.2.2.1 (flushOf l)
    rw [← ek] at hq
    refine ev_unfold (fun k => rfl) ?_
    simp only [spec_KeyOf.j0]
    refine ev_ite (fun h => ?_) (fun h => ?_)
    · rw [h] at hb
      rw [if_pos (hq.1 (of_decide_eq_true hb.symm))]
      exact Ev.bind (spec_l14Straight_ev _ kn) (Ev.now _)
    · rw [Bool.not_eq_true] at h
      rw [h] at hb
      rw [if_neg (fun e => of_decide_eq_false hb.symm (hq.2 e))]
      exact l1 _ kn [kindOf l] (by simp)
  simp only [spec_KeyOf.f]
  refine Ev.bind (spec_KindOf_ev l hl) ?_
  unfold handKey
  refine ev_ite (fun h => by rw [if_pos h]; exact Ev.now _) (fun h => ?_)
  rw [if_neg h]
  have hb : (isHand l && decide (l.length = 5)) = true := by
    by_cases e : (isHand l && decide (l.length = 5)) = true
    · exact e
    · exfalso; apply h; unfold kindOf; rw [if_neg e]; omega
  rw [Bool.and_eq_true, decide_eq_true_eq] at hb
  refine Ev.bind (spec_l14Count_ev l ((isHand_iff l).1 hb.1).1 hl) (ev_ite (fun h2 => ?_) (fun h2 => ?_))
  · exact j0 hb.1 hb.2 true (by rw [h2]; rfl)
  · refine j0 hb.1 hb.2 _ ?_
    have e : (kindOf l = 4 ∨ kindOf l = 8) ↔ kindOf l = 8 := ⟨fun x => x.resolve_left h2, .inr⟩
    rw [decide_eq_decide.2 e]; rfl

theorem spec_CompareFive_ev (a b : List Int) (ha : a.length ≤ 1048576000) (hb : b.length ≤ 1048576000) : Ev (fun k => spec_CompareFive.f k a b) (compareFive a b) := by
  have la := handKey_length a
  have lb := handKey_length b
  simp only [spec_CompareFive.f]
  refine Ev.bind (spec_KeyOf_ev a ha) (Ev.bind (spec_KeyOf_ev b hb) ?_)
  unfold compareFive
  generalize handKey a = x at la
  generalize handKey b = y at lb
  have key : ∀ (d i : Nat), i + d = x.length → Ev (fun k => spec_CompareFive.l0 k x y (i : Int)) (cmpL (x.drop i) (y.drop i)) := by
    intro d
    induction d with
    | zero =>
      intro i h
      obtain rfl : i = x.length := by omega
      refine ev_unfold (fun k => rfl) ?_
      simp only [spec_CompareFive.l0]
      refine ev_neg (by omega) (ev_unfold (fun k => rfl) ?_)
      simp only [spec_CompareFive.j1]
      refine ev_neg (by simp) (ev_ret ?_)
      rw [drop_end]; rfl
    | succ d ih =>
      intro i h
      have hi : i < x.length := by omega
      refine ev_unfold (fun k => rfl) ?_
      simp only [spec_CompareFive.l0]
      refine ev_pos (by omega) (ev_unfold (fun k => rfl) ?_)
      simp only [spec_CompareFive.j1]
      rw [drop_at x i hi]
      refine ev_ite (fun h2 => ?_) (fun h2 => ev_ret ?_)
      · have hy : i < y.length := by have := of_decide_eq_true h2; omega
        rw [drop_at y i hy, rd_at x i hi, rd_at y i hy, w64next i (by omega)]
        refine ev_pos (by omega) (ev_pos (by omega) (ev_pos (by omega) ?_))
        unfold cmpL
        refine ev_ite (fun h3 => by rw [if_pos h3]; exact Ev.now _) (fun h3 => ?_)
        rw [if_neg h3]
        refine ev_ite (fun h4 => by rw [if_pos h4]; exact Ev.now _) (fun h4 => ?_)
        rw [if_neg h4]
        exact ih (i + 1) (by omega)
      · have hy : y.length ≤ i := by
          rw [Bool.not_eq_true] at h2
          have := of_decide_eq_false h2; omega
        rw [List.drop_eq_nil_of_le hy]; rfl
  exact key x.length 0 (by omega)

theorem spec_l10Before_ev (a b : List Int) (ha : a.length ≤ 1048576000) : Ev (fun k => spec_l10Before.f k a b) (before a b) := by
  have key : ∀ (d i : Nat), i + d = a.length → Ev (fun k => spec_l10Before.l0 k a b (i : Int)) (before (a.drop i) (b.drop i)) := by
    intro d
    induction d with
    | zero =>
      intro i hd
      refine ev_unfold (fun k => rfl) ?_
      simp only [spec_l10Before.l0]
      refine ev_neg (by omega) (ev_unfold (fun k => rfl) ?_)
      simp only [spec_l10Before.j1]
      refine ev_neg (by simp) (ev_ret ?_)
      have e : a.drop i = [] := List.drop_of_length_le (by omega)
      rw [before_end (.inl e), List.length_drop, List.length_drop]
      exact decide_eq_decide.2 (by omega)
    | succ d ih =>
      intro i hd
      refine ev_unfold (fun k => rfl) ?_
      simp only [spec_l10Before.l0]
      refine ev_pos (by omega) (ev_unfold (fun k => rfl) ?_)
      simp only [spec_l10Before.j1]
      refine ev_ite (fun h => ?_) (fun h => ?_)
      · have hb : i < b.length := by have := of_decide_eq_true h; omega
        rw [w64next i (by omega), rd_at a i (by omega), rd_at b i hb, List.drop_eq_getElem_cons (by omega : i < a.length), List.drop_eq_getElem_cons hb]
        refine ev_pos (by omega) (ev_pos (by omega) (ev_pos (by omega) ?_))
        unfold before
        refine ev_ite (fun h2 => ?_) (fun h2 => ?_)
        · rw [if_pos h2]; exact ih (i + 1) (by omega)
        · rw [if_neg h2]; exact Ev.now _
      · have hb : b.length ≤ i := by
          rcases Nat.lt_or_ge i b.length with g | g
          · exact absurd (decide_eq_true (by omega)) h
          · exact g
        have e : b.drop i = [] := List.drop_of_length_le hb
        refine ev_ret ?_
        rw [before_end (.inr e), List.length_drop, List.length_drop]
        exact decide_eq_decide.2 (by omega)
  simp only [spec_l10Before.f]
  exact key a.length 0 (by omega)

theorem spec_BestFive_in (l best : List Int) (m : Nat) (hl : l.length ≤ 7) (hb : best.length ≤ 7) (hm : m ≤ 128) {R : List Int} (h : Ev (fun k => spec_BestFive.l0 k (keep5 best (pickF (m : Int) 0 l)) l ((m + 1 : Nat) : Int)) R) :
    Ev (fun k => spec_BestFive.l1 k best l (m : Int) [] 0) R := by
  have key : ∀ (d i : Nat) (s : List Int), i + d = l.length → s.length ≤ i → Ev (fun k => spec_BestFive.l0 k (keep5 best (s ++ pickF (m : Int) i (l.drop i))) l ((m + 1 : Nat) : Int)) R → Ev (fun k => spec_BestFive.l1 k best l (m : Int) s (i : Int)) R := by
    intro d
    induction d with
    | zero =>
      intro i s hd hs h
      refine ev_unfold (fun k => rfl) ?_
      simp only [spec_BestFive.l1]
      rw [List.drop_of_length_le (by omega), show pickF (m : Int) i [] = [] from rfl, List.append_nil] at h
      unfold keep5 at h
      rw [w64next m (by omega)]
      refine ev_neg (by omega) (ev_ite (fun h1 => Ev.bind (spec_CompareFive_ev s best (by omega) (by omega)) ?_) (fun h1 => ?_))
      · rw [if_pos (by omega)] at h
        refine ev_ite (fun h2 => ?_) (fun h2 => ?_)
        · rw [if_pos (by omega)] at h; exact h
        · rw [if_neg (by omega)] at h
          refine ev_ite (fun h3 => ?_) (fun h3 => ?_)
          · rw [if_pos h3] at h; exact h
          · rw [if_neg h3] at h
            refine ev_ite (fun h4 => ?_) (fun h4 => ?_)
            · rw [if_pos h4] at h
              refine Ev.bind (spec_l10Before_ev s best (by omega)) (ev_ite (fun h5 => ?_) (fun h5 => ?_))
              · rw [if_pos h5] at h; exact h
              · rw [if_neg h5] at h; exact h
            · rw [if_neg h4] at h; exact h
      · rw [if_neg (by omega)] at h; exact h
    | succ d ih =>
      intro i s hd hs h
      refine ev_unfold (fun k => rfl) ?_
      simp only [spec_BestFive.l1]
      rw [w64next i (by omega), rd_at l i (by omega)]
      rw [List.drop_eq_getElem_cons (by omega : i < l.length)] at h
      unfold pickF at h
      refine ev_pos (by omega) (ev_pos (by omega) (ev_ite (fun h1 => ev_pos (by omega) (ih (i + 1) _ (by omega) (by simp; omega) ?_)) (fun h1 => ih (i + 1) _ (by omega) (by omega) ?_)))
      · rw [if_pos (show bitOf (m : Int) i = true from decide_eq_true h1)] at h
        rw [List.append_assoc]; exact h
      · rw [if_neg (show ¬ bitOf (m : Int) i = true from fun z => h1 (of_decide_eq_true z))] at h
        exact h
  exact key l.length 0 [] (by omega) (Nat.le_refl _) h
theorem spec_BestFive_ev (l : List Int) (hl : l.length ≤ 1048576000) : Ev (fun k => spec_BestFive.f k l) (bestFive l) := by
  have loop : ∀ (l : List Int) (h1 : 5 ≤ l.length) (h2 : l.length ≤ 7) (d m : Nat) (best : List Int), m + d = masks l → best.length ≤ 7 → Ev (fun k => spec_BestFive.l0 k best l (m : Int)) (bestFrom l d m best) := by
    intro l h1 h2 d
    obtain ⟨e, hm⟩ := masks_ok l h1 h2
    induction d with
    | zero =>
      intro m best hd hb
      refine ev_unfold (fun k => rfl) ?_
      simp only [spec_BestFive.l0]
      rw [e]
      exact ev_neg (by omega) (Ev.now _)
    | succ d ih =>
      intro m best hd hb
      refine ev_unfold (fun k => rfl) ?_
      simp only [spec_BestFive.l0]
      rw [e]
      have hp := pickF_length (m : Int) l 0
      exact ev_pos (by omega) (spec_BestFive_in l best m h2 hb (by omega) (ih (m + 1) _ (by omega) (keep5_length hb (by omega))))
  have j0 : ∀ b : Bool, b = !(isHand l && inR (l.length : Int) 5 7) → Ev (fun k => spec_BestFive.j0 k l [] b) (bestFive l) := by
    intro b hb
    refine ev_unfold (fun k => rfl) ?_
    simp only [spec_BestFive.j0]
    unfold bestFive
    refine ev_ite (fun h => ?_) (fun h => ?_)
    · rw [if_neg]
      · exact Ev.now _
      · rintro ⟨g1, g2⟩
        rw [hb, g1, g2] at h
        cases h
    · have hg : isHand l = true ∧ inR (l.length : Int) 5 7 = true := by
        cases h1 : isHand l <;> cases h2 : inR (l.length : Int) 5 7 <;> simp [hb, h1, h2] at h ⊢
      have hr := (inR_iff _ _ _).1 hg.2
      rw [if_pos hg]
      have sl := sorted_length l
      exact Ev.bind (spec_Sorted_ev l hl) (loop (sorted l) (by omega) (by omega) (masks (sorted l)) 0 [] (by omega) (Nat.zero_le _))
  simp only [spec_BestFive.f, Option.bind_some, spec_l1In_eq]
  refine Ev.bind (spec_IsHand_ev l hl) (ev_ite (fun h => j0 _ (by rw [h]; rfl)) (fun h => j0 _ ?_))
  have : isHand l = false := by simpa using h
  rw [this]; rfl

theorem laws_toIntS_ev (l : List Int) (hl : l.length ≤ 1048576000) : Ev (fun k => laws_toIntS.f k l) l := by
  simp only [laws_toIntS.f]
  refine ev_pos (by omega) (ev_pos (by omega) ?_)
  refine ev_loop (fun k (s : List Int) i => laws_toIntS.l0 k l s i) l (fun _ _ => l) (fun s i => s.length = l.length ∧ s.take i = l.take i) ?_ ?_ _ 0 (by omega) ⟨by simp, by simp⟩
  · rintro s ⟨h1, h2⟩
    refine ev_unfold (fun k => rfl) ?_
    simp only [laws_toIntS.l0]
    refine ev_neg (by omega) (ev_ret ?_)
    rw [List.take_of_length_le (by omega), List.take_of_length_le (by omega)] at h2
    exact h2
  · rintro s i hi ⟨h1, h2⟩ ih
    refine ev_unfold (fun k => rfl) ?_
    simp only [laws_toIntS.l0]
    refine ev_pos (by omega) (ev_pos (by omega) (ev_pos (by omega) ?_))
    rw [w64next i (by omega), rd_at l i hi, Int.toNat_natCast]
    refine ih _ ⟨by simpa using h1, ?_⟩
    apply List.ext_getElem
    · simp; omega
    · intro j hj1 hj2
      simp at hj1 hj2
      simp only [List.getElem_take, List.getElem_set]
      by_cases hij : i = j
      · subst hij; simp
      · rw [if_neg hij]
        have h3 : (s.take i)[j]'(by simp; omega) = (l.take i)[j]'(by simp; omega) := by simp only [h2]
        simpa using h3

theorem impl_InRange_eq (n a b : Int) : impl_InRange.f n a b = some (inR n a b) := by
  unfold impl_InRange.f inR
  by_cases h : a ≤ n
  · rw [if_pos (by omega)]; simp [h]
  · rw [if_neg (by omega)]; simp [h]

theorem impl_IsCard_eq (c : Int) : impl_IsCard.f c = some (isCard c) := by
  unfold impl_IsCard.f isCard
  rw [impl_InRange_eq]; rfl

theorem impl_IsHand_ev (l : List Int) (hl : l.length ≤ 1048576000) : Ev (fun k => impl_IsHand.f k l) (isHand l) := by
  simp only [impl_IsHand.f]
  refine ev_done (ev_loopN (fun k (s : List Bool) i => impl_IsHand.l0 k l s i) l.length (fun _ i => handF (l.take i) (l.drop i)) (fun s i => s.length = 52 ∧ ∀ c : Nat, c < 52 → s.getD c false = decide ((c : Int) ∈ l.take i)) ?_ ?_ _ 0 (by omega) ⟨by simp, fun c hc => by rw [List.getD_eq_getElem?_getD, List.getElem?_replicate, if_pos hc]; simp⟩) (by simp [isHand])
  · rintro s _
    refine ev_unfold (fun k => rfl) ?_
    simp only [impl_IsHand.l0]
    refine ev_neg (by omega) (ev_ret ?_)
    rw [drop_end]; rfl
  · rintro s i hi ⟨h52, hs⟩ ih
    refine ev_unfold (fun k => rfl) ?_
    simp only [impl_IsHand.l0]
    rw [w64next i (by omega), rd_at l i hi, drop_at l i hi]
    unfold handF
    refine ev_pos (by omega) (ev_pos (by omega) (ev_eq (impl_IsCard_eq _) (ev_ite (fun h => ?_) (fun h => ev_ret ?_))))
    · have hc := (isCard_iff _).1 h
      have he := hs l[i].toNat (by omega)
      rw [show ((l[i].toNat : Nat) : Int) = l[i] by omega] at he
      refine ev_pos (by omega) (ev_pos (by omega) (ev_ite (fun h2 => ev_ret ?_) (fun h2 => ev_done (ih _ ⟨by simpa using h52, fun c hc2 => ?_⟩) ?_)))
      · rw [h2] at he
        unfold hasCard
        rw [← he]; simp
      · rw [take_at l i hi, List.getD_eq_getElem?_getD, List.getElem?_set]
        have h3 := hs c hc2
        rw [List.getD_eq_getElem?_getD] at h3
        by_cases hci : l[i].toNat = c
        · rw [if_pos hci, if_pos (by omega)]
          have : (c : Int) = l[i] := by omega
          exact (decide_eq_true (List.mem_append.2 (.inr (by rw [this]; exact List.mem_singleton.2 rfl)))).symm
        · rw [if_neg hci, h3]
          have : ¬ (c : Int) = l[i] := by omega
          exact decide_eq_decide.2 ⟨fun h => List.mem_append.2 (.inl h), fun h => (List.mem_append.1 h).resolve_right (fun h => this (List.mem_singleton.1 h))⟩
      · rw [Bool.not_eq_true] at h2
        rw [h2] at he
        unfold hasCard
        rw [h, ← he, take_at l i hi]; simp
    · rw [Bool.not_eq_true] at h
      rw [h]; simp

theorem impl_Sorted_ev (l : List Int) (hl : l.length ≤ 1048576000) : Ev (fun k => impl_Sorted.f k l) (sorted l) := by
  simp only [impl_Sorted.f]
  refine ev_done (ev_loop (fun k (s : List Int) i => impl_Sorted.l0 k s l (l.length : Int) i) l (fun s r => sortF s r) (fun s i => s.length = i) ?_ ?_ [] 0 (by omega) rfl) rfl
  · rintro s _
    refine ev_unfold (fun k => rfl) ?_
    simp only [impl_Sorted.l0]
    exact ev_neg (by omega) (ev_ret rfl)
  · rintro s i hi hs ih
    have l1 : ∀ q : Nat, q ≤ s.length → Ev (fun k => impl_Sorted.l1 k s l[i] (q : Int) l (l.length : Int) (i : Int)) (sortF (insAt s (backF s l[i] q) l[i]) (l.drop (i + 1))) := by
      have fin : ∀ q : Nat, q ≤ s.length → Ev (fun k => if s.length < 17592186044416 then ((some (s ++ [0] : List Int)).bind fun y => (if 0 ≤ (q : Int) then (if (q : Int) < (y.length : Int) then (impl_Sorted.l0 k ((Arr.shifted y (q : Int).toNat).set (q : Int).toNat l[i]) l (l.length : Int) (wrap64 ((i : Int) + 1))) else none) else none)) else none) (sortF (insAt s q l[i]) (l.drop (i + 1))) := by
        intro q hq
        refine ev_pos (by omega) ?_
        simp only [Option.bind_some]
        rw [w64next i (by omega), Int.toNat_natCast, shift_set s 0 l[i] q hq]
        refine ev_pos (by omega) (ev_pos (by simp; omega) (ih _ ?_))
        rw [insAt_length _ _ _ hq, hs]
      intro q
      induction q with
      | zero =>
        intro hq
        refine ev_unfold (fun k => rfl) ?_
        simp only [impl_Sorted.l1]
        refine ev_neg (by omega) ?_
        exact fin 0 (by omega)
      | succ q ihq =>
        intro hq
        refine ev_unfold (fun k => rfl) ?_
        simp only [impl_Sorted.l1]
        have e1 : wrap64 (((q + 1 : Nat) : Int) - 1) = (q : Int) := by rw [w64 _ (by omega)]; omega
        rw [e1]
        refine ev_pos (by omega) (ev_pos (by omega) (ev_pos (by omega) ?_))
        unfold backF
        refine ev_ite (fun h => ?_) (fun h => ?_)
        · rw [if_pos h]; exact ihq (by omega)
        · rw [if_neg h]; exact fin (q + 1) hq
    refine ev_unfold (fun k => rfl) ?_
    simp only [impl_Sorted.l0]
    rw [rd_at l i hi]
    exact ev_pos (by omega) (ev_pos (by omega) (ev_pos (by omega) (l1 s.length (Nat.le_refl _))))

theorem impl_SuitOf_eq (c : Int) : impl_SuitOf.f c = some (suitOf c) := by
  unfold impl_SuitOf.f suitOf
  rw [impl_IsCard_eq]
  simp only [Option.bind_some]
  by_cases h : isCard c = true
  · have h2 := (isCard_iff c).1 h
    rw [if_pos h, if_pos h, Int.tdiv_eq_ediv_of_nonneg h2.1, w64 _ (by omega)]
  · rw [if_neg h, if_neg h]

theorem impl_RankOf_eq (c : Int) : impl_RankOf.f c = some (rankOf c) := by
  unfold impl_RankOf.f rankOf
  rw [impl_IsCard_eq]
  simp only [Option.bind_some]
  by_cases h : isCard c = true
  · rw [if_pos h, if_pos h, Int.tmod_eq_emod_of_nonneg ((isCard_iff c).1 h).1]
  · rw [if_neg h, if_neg h]

theorem impl_ranked_ev (l : List Int) (hc : ∀ c ∈ l, isCard c = true) (hl : l.length ≤ 1048576000) : Ev (fun k => impl_ranked.f k l) (rkOf (cnt l), mnOf (cnt l)) := by
  have l1 : ∀ n : List Int, n.length = 13 → Ev (fun k => impl_ranked.l1 k n [] [] 4) (rkOf n, mnOf n) := by
    intro n hn
    have z : ∀ x y : List Int, x.length ≤ 1000 → y.length ≤ 1000 → Ev (fun k => impl_ranked.l1 k n x y ((0 : Nat) : Int)) (x, y) := by
      intro x y _ _
      refine ev_unfold (fun k => rfl) ?_
      simp only [impl_ranked.l1]
      exact ev_neg (by omega) (Ev.now _)
    have up : ∀ (c q : Nat) (_ : c ≤ 100) (_ : q ≤ 900) (V : List Int → List Int → List Int × List Int), (∀ x y : List Int, x.length ≤ q + 13 → y.length ≤ q + 13 → Ev (fun k => impl_ranked.l1 k n x y (c : Int)) (V x y)) → ∀ x y : List Int, x.length ≤ q → y.length ≤ q → Ev (fun k => impl_ranked.l1 k n x y ((c + 1 : Nat) : Int)) (V (x ++ rkDown n ((c : Int) + 1) 13) (y ++ (rkDown n ((c : Int) + 1) 13).map fun _ => (c : Int) + 1)) := by
      intro c q hc2 hq V hV x y hx hy
      refine ev_unfold (fun k => rfl) ?_
      simp only [impl_ranked.l1]
      refine ev_pos (by omega) ?_
      have key : ∀ m : Nat, m ≤ 13 → ∀ x y : List Int, x.length + m ≤ q + 13 → y.length + m ≤ q + 13 → Ev (fun k => impl_ranked.l2 k n x y ((c : Int) + 1) ((m : Int) - 1)) (V (x ++ rkDown n ((c : Int) + 1) m) (y ++ (rkDown n ((c : Int) + 1) m).map fun _ => (c : Int) + 1)) := by
        intro m
        induction m with
        | zero =>
          intro _ x y hx hy
          refine ev_unfold (fun k => rfl) ?_
          simp only [impl_ranked.l2]
          refine ev_neg (by omega) ?_
          rw [show wrap64 ((c : Int) + 1 - 1) = (c : Int) by rw [w64 _ (by omega)]; omega]
          simpa [rkDown] using hV x y (by omega) (by omega)
        | succ m ih =>
          intro hm x y hx hy
          refine ev_unfold (fun k => rfl) ?_
          simp only [impl_ranked.l2]
          rw [show ((m + 1 : Nat) : Int) - 1 = (m : Int) by omega, show wrap64 ((m : Int) - 1) = (m : Int) - 1 by rw [w64 _ (by omega)]]
          refine ev_pos (by omega) (ev_pos (by omega) (ev_pos (by omega) ?_))
          unfold rkDown
          rw [show rd n (m : Int) = n.getD m 0 by unfold rd; rw [Int.toNat_natCast]]
          refine ev_ite (fun h => ?_) (fun h => ?_)
          · rw [if_pos h]
            refine ev_pos (by omega) (ev_pos (by omega) ?_)
            refine ev_done (ih (by omega) (x ++ [(m : Int)]) (y ++ [(c : Int) + 1]) (by simp; omega) (by simp; omega)) (by simp)
          · rw [if_neg h]
            exact ih (by omega) x y (by omega) (by omega)
      have := key 13 (by omega) x y (by omega) (by omega)
      simpa using this
    have u1 := up 0 60 (by omega) (by omega) _ (fun x y hx hy => z x y (by omega) (by omega))
    have u2 := up 1 40 (by omega) (by omega) _ (fun x y hx hy => u1 x y (by omega) (by omega))
    have u3 := up 2 20 (by omega) (by omega) _ (fun x y hx hy => u2 x y (by omega) (by omega))
    have u4 := up 3 0 (by omega) (by omega) _ (fun x y hx hy => u3 x y (by omega) (by omega))
    have := u4 [] [] (by simp) (by simp)
    refine ev_done this ?_
    simp [rkOf, mnOf]
  simp only [impl_ranked.f]
  refine ev_done (ev_loop (fun k (s : List Int) i => impl_ranked.l0 k l s i) l (fun s r => (rkOf (cntF s r), mnOf (cntF s r))) (fun s i => s.length = 13 ∧ ∀ x ∈ s, 0 ≤ x ∧ x ≤ (i : Int)) ?_ ?_ (List.replicate 13 0) 0 (by omega) ⟨by simp, by intro x hx; rw [List.mem_replicate] at hx; omega⟩) rfl
  · rintro s ⟨h1, h2⟩
    refine ev_unfold (fun k => rfl) ?_
    simp only [impl_ranked.l0]
    exact ev_neg (by omega) (l1 s h1)
  · rintro s i hi ⟨h1, h2⟩ ih
    refine ev_unfold (fun k => rfl) ?_
    simp only [impl_ranked.l0]
    rw [w64next i (by omega), rd_at l i hi]
    have hr : 0 ≤ rankOf l[i] ∧ rankOf l[i] ≤ 12 := by
      have := (isCard_iff l[i]).1 (hc _ (List.getElem_mem hi))
      unfold rankOf; rw [if_pos (hc _ (List.getElem_mem hi))]; omega
    refine ev_pos (by omega) (ev_pos (by omega) (ev_eq (impl_RankOf_eq _) (ev_pos (by omega) (ev_pos (by omega) ?_))))
    have hb : 0 ≤ s.getD (rankOf l[i]).toNat 0 ∧ s.getD (rankOf l[i]).toNat 0 ≤ (i : Int) := by
      have hq : (rankOf l[i]).toNat < s.length := by omega
      rw [List.getD_eq_getElem?_getD, List.getElem?_eq_getElem hq]
      exact h2 _ (List.getElem_mem hq)
    rw [w64 _ (by omega)]
    unfold cntF
    refine ih _ ⟨by rw [List.length_set]; exact h1, fun x hx => ?_⟩
    rcases List.mem_or_eq_of_mem_set hx with h | rfl
    · have := h2 x h; omega
    · omega

theorem impl_EqualInts_ev (a b : List Int) (hl : a.length ≤ 1048576000) : Ev (fun k => impl_EqualInts.f k a b) (decide (a = b)) := by
  simp only [impl_EqualInts.f]
  refine ev_ite (fun h => ?_) (fun h => ev_ret ?_)
  · have he : a.length = b.length := by omega
    refine ev_done (ev_loopN (fun k (_ : Unit) i => impl_EqualInts.l0 k a b (a.length : Int) i) a.length (fun _ i => decide (a.drop i = b.drop i)) (fun _ _ => True) ?_ ?_ () 0 (by omega) trivial) (by simp)
    · rintro s _
      refine ev_unfold (fun k => rfl) ?_
      simp only [impl_EqualInts.l0]
      refine ev_neg (by omega) (ev_ret ?_)
      rw [drop_end, he, drop_end]; rfl
    · rintro s i hi _ ih
      refine ev_unfold (fun k => rfl) ?_
      simp only [impl_EqualInts.l0]
      have hib : i < b.length := by omega
      rw [w64next i (by omega), rd_at a i hi, rd_at b i hib, drop_at a i hi, drop_at b i hib]
      refine ev_pos (by omega) (ev_pos (by omega) (ev_pos (by omega) (ev_pos (by omega) (ev_ite (fun h2 => ev_done (ih () trivial) ?_) (fun h2 => ev_ret ?_)))))
      · rw [h2]; simp only [List.cons.injEq, true_and]
      · exact (decide_eq_false (fun e => h2 (by injection e))).symm
  · exact (decide_eq_false (fun e => h (by rw [e]))).symm

theorem impl_straight_ev (rk : List Int) (hl : rk.length ≤ 1048576000) (hr : ∀ x ∈ rk, 0 ≤ x ∧ x < 13) : Ev (fun k => impl_straight.f k rk) (strI rk) := by
  simp only [impl_straight.f]
  unfold strI
  refine ev_ite (fun h => ?_) (fun h => ?_)
  · rw [if_pos (by omega)]
    have b0 : 0 ≤ rd rk 0 ∧ rd rk 0 < 13 := by rw [show rd rk 0 = rk[0] from rd_at rk 0 (by omega)]; exact hr _ (List.getElem_mem _)
    have b4 : 0 ≤ rd rk 4 ∧ rd rk 4 < 13 := by rw [show rd rk 4 = rk[4] from rd_at rk 4 (by omega)]; exact hr _ (List.getElem_mem _)
    rw [w64 _ (by omega)]
    refine ev_pos (by omega) (ev_pos (by omega) (ev_ite (fun h2 => by rw [if_pos h2]; exact Ev.now _) (fun h2 => ?_)))
    rw [if_neg h2]
    refine Ev.bind (impl_EqualInts_ev rk _ hl) (ev_ite (fun h3 => ?_) (fun h3 => ?_))
    · rw [if_pos (of_decide_eq_true h3)]; exact Ev.now _
    · rw [if_neg (of_decide_eq_false (by simpa using h3))]; exact Ev.now _
  · rw [if_neg (by omega)]; exact Ev.now _

theorem impl_KindOf_ev (l : List Int) (hl : l.length ≤ 1048576000) : Ev (fun k => impl_KindOf.f k l) (kindOf l) := by
  have j4 : ∀ (mn : List Int) (b : Bool), 2 ≤ mn.length → b = (decide (rd mn 0 = 2) && decide (rd mn 1 = 2)) → Ev (fun k => impl_KindOf.j4 k mn b) (if b = true then 2 else if rd mn 0 = 2 then 1 else 0) := by
    intro mn b h2 hb
    refine ev_unfold (fun k => rfl) ?_
    simp only [impl_KindOf.j4]
    refine ev_ite (fun h => by rw [if_pos h]; exact Ev.now _) (fun h => ?_)
    rw [if_neg h]
    refine ev_pos (by omega) (ev_ite (fun h => by rw [if_pos h]; exact Ev.now _) (fun h => by rw [if_neg h]; exact Ev.now _))
  have j3 : ∀ (mn : List Int) (s : Int) (fl b : Bool), 2 ≤ mn.length → Ev (fun k => impl_KindOf.j3 k mn fl (decide (s ≥ 0)) b) (if b = true then 6 else if fl = true then 5 else if s ≥ 0 then 4 else if rd mn 0 = 3 then 3 else if (decide (rd mn 0 = 2) && decide (rd mn 1 = 2)) = true then 2 else if rd mn 0 = 2 then 1 else 0) := by
    intro mn s fl b h2
    refine ev_unfold (fun k => rfl) ?_
    simp only [impl_KindOf.j3]
    refine ev_ite (fun h => by rw [if_pos h]; exact Ev.now _) (fun h => ?_)
    rw [if_neg h]
    refine ev_ite (fun h => by rw [if_pos h]; exact Ev.now _) (fun h => ?_)
    rw [if_neg h]
    refine ev_ite (fun h => by rw [if_pos (of_decide_eq_true h)]; exact Ev.now _) (fun h => ?_)
    rw [if_neg (of_decide_eq_false (by simpa using h))]
    refine ev_pos (by omega) (ev_ite (fun h => by rw [if_pos h]; exact Ev.now _) (fun h => ?_))
    rw [if_neg h]
    refine ev_ite (fun h => ?_) (fun h => ?_)
    · refine ev_pos (by omega) (ev_done (j4 mn _ h2 ?_) ?_)
      · rw [decide_eq_true h, Bool.true_and]; rfl
      · rw [decide_eq_true h, Bool.true_and]; rfl
    · refine ev_done (j4 mn _ h2 ?_) ?_
      · rw [decide_eq_false h]; rfl
      · rw [decide_eq_false h]; rfl
  have j2 : ∀ (mn : List Int) (s : Int) (fl b : Bool), 2 ≤ mn.length → b = (decide (s ≥ 0) && fl) → Ev (fun k => impl_KindOf.j2 k mn fl (decide (s ≥ 0)) b) (kindI s mn fl) := by
    intro mn s fl b h2 hb
    refine ev_unfold (fun k => rfl) ?_
    simp only [impl_KindOf.j2]
    unfold kindI
    rw [← hb]
    refine ev_ite (fun h => by rw [if_pos h]; exact Ev.now _) (fun h => ?_)
    rw [if_neg h]
    refine ev_pos (by omega) (ev_ite (fun h => by rw [if_pos h]; exact Ev.now _) (fun h => ?_))
    rw [if_neg h]
    refine ev_ite (fun h => ?_) (fun h => ?_)
    · refine ev_pos (by omega) (ev_done (j3 mn s fl _ h2) ?_)
      rw [decide_eq_true h, Bool.true_and]; rfl
    · refine ev_done (j3 mn s fl _ h2) ?_
      rw [decide_eq_false h, Bool.false_and]
  have l0 : isHand l = true → l.length = 5 → Ev (fun k => impl_KindOf.l0 k l (rkOf (cnt l)) (mnOf (cnt l)) true l (l.length : Int) 0) (kindN (cnt l) (flushOf l)) := by
    intro hh h5
    have hok := cnt_ok hh h5
    refine ev_done (ev_loop (fun k (b : Bool) i => impl_KindOf.l0 k l (rkOf (cnt l)) (mnOf (cnt l)) b l (l.length : Int) i) l (fun b r => kindN (cnt l) (b && r.all fun c => decide (suitOf c = suitOf (rd l 0)))) (fun _ _ => True) ?_ ?_ true 0 (by omega) trivial) (by simp [flushOf])
    · rintro b _
      refine ev_unfold (fun k => rfl) ?_
      simp only [impl_KindOf.l0]
      refine ev_neg (by omega) (Ev.bind (impl_straight_ev _ (by have := rkOf_length (cnt l); omega) (rkOf_range _)) ?_)
      rw [hok.1]
      have e : kindN (cnt l) (b && ([] : List Int).all fun c => decide (suitOf c = suitOf (rd l 0))) = kindI (strF (cnt l) 10) (mnOf (cnt l)) b := by
        rw [hok.2.1]; simp
      rw [e]
      refine ev_ite (fun h => j2 _ _ _ _ hok.2.2.1 ?_) (fun h => j2 _ _ _ _ hok.2.2.1 ?_)
      · rw [decide_eq_true h, Bool.true_and]
      · rw [decide_eq_false h]; rfl
    · rintro b i hi _ ih
      refine ev_unfold (fun k => rfl) ?_
      simp only [impl_KindOf.l0]
      rw [w64next i (by omega), rd_at l i hi, List.all_cons, ← Bool.and_assoc]
      refine ev_pos (by omega) (ev_pos (by omega) (ev_pos (by omega) (ev_ite (fun h => ?_) (fun h => ?_))))
      · refine ev_eq (impl_SuitOf_eq _) (ev_pos (by omega) (ev_eq (impl_SuitOf_eq _) ?_))
        have e : (suitOf l[i] == suitOf (rd l 0)) = (b && decide (suitOf l[i] = suitOf (rd l 0))) := by rw [h, Bool.true_and]; rfl
        rw [e]; exact ih _ trivial
      · rw [Bool.not_eq_true] at h
        have e : false = (b && decide (suitOf l[i] = suitOf (rd l 0))) := by rw [h]; rfl
        rw [← e]; exact ih _ trivial
  have j0 : ∀ b, (b = false → isHand l = true ∧ l.length = 5) → (b = true → ¬ (isHand l && decide (l.length = 5)) = true) → Ev (fun k => impl_KindOf.j0 k l b) (kindOf l) := by
    intro b h1 h2
    refine ev_unfold (fun k => rfl) ?_
    simp only [impl_KindOf.j0]
    unfold kindOf
    refine ev_ite (fun h => ev_ret ?_) (fun h => ?_)
    · rw [if_neg (h2 h)]
    · rw [Bool.not_eq_true] at h
      obtain ⟨hh, h5⟩ := h1 h
      rw [if_pos (by rw [hh, decide_eq_true h5]; rfl)]
      exact Ev.bind (impl_ranked_ev l ((isHand_iff l).1 hh).1 hl) (l0 hh h5)
  simp only [impl_KindOf.f]
  refine Ev.bind (impl_IsHand_ev l hl) (ev_ite (fun h => ?_) (fun h => ?_))
  · refine j0 _ (fun e => ⟨h, ?_⟩) (fun e => ?_)
    · simp at e; omega
    · simp at e; simp [h]; omega
  · refine j0 _ (fun e => by simp at e) (fun _ => ?_)
    simp [h]

theorem impl_KeyOf_ev (l : List Int) (hl : l.length ≤ 1048576000) : Ev (fun k => impl_KeyOf.f k l) (handKey l) := by
  simp only [impl_KeyOf.f]
  refine Ev.bind (impl_KindOf_ev l hl) ?_
  unfold handKey
  refine ev_ite (fun h => by rw [if_pos h]; exact Ev.now _) (fun h => ?_)
  rw [if_neg h]
  have hb : (isHand l && decide (l.length = 5)) = true := by
    by_cases e : (isHand l && decide (l.length = 5)) = true
    · exact e
    · exfalso; apply h; unfold kindOf; rw [if_neg e]; omega
  rw [Bool.and_eq_true, decide_eq_true_eq] at hb
  have hok := cnt_ok hb.1 hb.2
  have hr := rkOf_length (cnt l)
  refine Ev.bind (impl_ranked_ev l ((isHand_iff l).1 hb.1).1 hl) (Ev.bind (impl_straight_ev _ (by simp only; omega) (rkOf_range _)) ?_)
  simp only
  rw [hok.1]
  refine ev_ite (fun h2 => by rw [if_pos h2]; exact Ev.now _) (fun h2 => ?_)
  rw [if_neg h2]
  simp only [Option.bind_some]
  exact ev_pos (by simp; omega) (Ev.now _)

theorem impl_CompareFive_ev (a b : List Int) (ha : a.length ≤ 1048576000) (hb : b.length ≤ 1048576000) : Ev (fun k => impl_CompareFive.f k a b) (compareFive a b) := by
  have la := handKey_length a
  have lb := handKey_length b
  simp only [impl_CompareFive.f]
  refine Ev.bind (impl_KeyOf_ev a ha) (Ev.bind (impl_KeyOf_ev b hb) ?_)
  unfold compareFive
  generalize handKey a = x at la
  generalize handKey b = y at lb
  have key : ∀ (d i : Nat), i + d = x.length → Ev (fun k => impl_CompareFive.l0 k x y (i : Int)) (cmpL (x.drop i) (y.drop i)) := by
    intro d
    induction d with
    | zero =>
      intro i h
      obtain rfl : i = x.length := by omega
      refine ev_unfold (fun k => rfl) ?_
      simp only [impl_CompareFive.l0]
      refine ev_neg (by omega) (ev_unfold (fun k => rfl) ?_)
      simp only [impl_CompareFive.j1]
      refine ev_neg (by simp) (ev_ret ?_)
      rw [drop_end]; rfl
    | succ d ih =>
      intro i h
      have hi : i < x.length := by omega
      refine ev_unfold (fun k => rfl) ?_
      simp only [impl_CompareFive.l0]
      refine ev_pos (by omega) (ev_unfold (fun k => rfl) ?_)
      simp only [impl_CompareFive.j1]
      rw [drop_at x i hi]
      refine ev_ite (fun h2 => ?_) (fun h2 => ev_ret ?_)
      · have hy : i < y.length := by have := of_decide_eq_true h2; omega
        rw [drop_at y i hy, rd_at x i hi, rd_at y i hy, w64next i (by omega)]
        refine ev_pos (by omega) (ev_pos (by omega) (ev_pos (by omega) ?_))
        unfold cmpL
        refine ev_ite (fun h3 => by rw [if_pos h3]; exact Ev.now _) (fun h3 => ?_)
        rw [if_neg h3]
        refine ev_ite (fun h4 => by rw [if_pos h4]; exact Ev.now _) (fun h4 => ?_)
        rw [if_neg h4]
        exact ih (i + 1) (by omega)
      · have hy : y.length ≤ i := by
          rw [Bool.not_eq_true] at h2
          have := of_decide_eq_false h2; omega
        rw [List.drop_eq_nil_of_le hy]; rfl
  exact key x.length 0 (by omega)

theorem impl_isBefore_ev (a b : List Int) (ha : a.length ≤ 1048576000) : Ev (fun k => impl_isBefore.f k a b) (before a b) := by
  have key : ∀ (d i : Nat), i + d = a.length → i ≤ b.length → Ev (fun k => impl_isBefore.l0 k a b (a.length : Int) (i : Int)) (before (a.drop i) (b.drop i)) := by
    intro d
    induction d with
    | zero =>
      intro i hd hb
      refine ev_unfold (fun k => rfl) ?_
      simp only [impl_isBefore.l0]
      refine ev_neg (by omega) (ev_ret ?_)
      have e : a.drop i = [] := List.drop_of_length_le (by omega)
      rw [before_end (.inl e), List.length_drop, List.length_drop]
      exact decide_eq_decide.2 (by omega)
    | succ d ih =>
      intro i hd hb
      refine ev_unfold (fun k => rfl) ?_
      simp only [impl_isBefore.l0]
      refine ev_pos (by omega) (ev_ite (fun h => ?_) (fun h => ?_))
      · have e : b.drop i = [] := List.drop_of_length_le (by omega)
        refine ev_ret ?_
        rw [before_end (.inr e), List.length_drop, List.length_drop]
        exact (decide_eq_false (by omega)).symm
      · have hb2 : i < b.length := by omega
        rw [w64next i (by omega), rd_at a i (by omega), rd_at b i hb2, List.drop_eq_getElem_cons (by omega : i < a.length), List.drop_eq_getElem_cons hb2]
        refine ev_pos (by omega) (ev_pos (by omega) (ev_pos (by omega) ?_))
        unfold before
        refine ev_ite (fun h2 => ?_) (fun h2 => ?_)
        · rw [if_pos h2]; exact ih (i + 1) (by omega) (by omega)
        · rw [if_neg h2]; exact Ev.now _
  simp only [impl_isBefore.f]
  exact key a.length 0 (by omega) (by omega)

theorem impl_BestFive_in (l best : List Int) (m : Nat) (hl : l.length ≤ 7) (hb : best.length ≤ 7) (hm : m ≤ 128) (N : Int) {R : List Int} (h : Ev (fun k => impl_BestFive.l0 k l (keep5 best (pickF (m : Int) 0 l)) N ((m + 1 : Nat) : Int)) R) :
    Ev (fun k => impl_BestFive.l1 k l best (m : Int) [] N (m : Int) l (l.length : Int) 0) R := by
  have key : ∀ (d i : Nat) (s : List Int), i + d = l.length → s.length ≤ i → Ev (fun k => impl_BestFive.l0 k l (keep5 best (s ++ pickF (m : Int) i (l.drop i))) N ((m + 1 : Nat) : Int)) R → Ev (fun k => impl_BestFive.l1 k l best (m : Int) s N (m : Int) l (l.length : Int) (i : Int)) R := by
    intro d
    induction d with
    | zero =>
      intro i s hd hs h
      refine ev_unfold (fun k => rfl) ?_
      simp only [impl_BestFive.l1]
      rw [List.drop_of_length_le (by omega), show pickF (m : Int) i [] = [] from rfl, List.append_nil] at h
      unfold keep5 at h
      rw [w64next m (by omega)]
      refine ev_neg (by omega) (ev_ite (fun h1 => ?_) (fun h1 => ?_))
      · rw [if_pos (by omega)] at h
        refine ev_ite (fun h2 => ?_) (fun h2 => Ev.bind (impl_CompareFive_ev s best (by omega) (by omega)) ?_)
        · rw [if_pos (by omega)] at h; exact h
        · rw [if_neg (by omega)] at h
          refine ev_ite (fun h3 => ?_) (fun h3 => Ev.bind (impl_CompareFive_ev s best (by omega) (by omega)) ?_)
          · rw [if_pos h3] at h; exact h
          · rw [if_neg h3] at h
            refine ev_ite (fun h4 => ?_) (fun h4 => ?_)
            · rw [if_pos h4] at h
              refine Ev.bind (impl_isBefore_ev s best (by omega)) (ev_ite (fun h5 => ?_) (fun h5 => ?_))
              · rw [if_pos h5] at h; exact h
              · rw [if_neg h5] at h; exact h
            · rw [if_neg h4] at h; exact h
      · rw [if_neg (by omega)] at h; exact h
    | succ d ih =>
      intro i s hd hs h
      refine ev_unfold (fun k => rfl) ?_
      simp only [impl_BestFive.l1]
      rw [w64next i (by omega), rd_at l i (by omega)]
      rw [List.drop_eq_getElem_cons (by omega : i < l.length)] at h
      unfold pickF at h
      refine ev_pos (by omega) (ev_pos (by omega) (ev_pos (by omega) (ev_ite (fun h1 => ev_pos (by omega) (ih (i + 1) _ (by omega) (by simp; omega) ?_)) (fun h1 => ih (i + 1) _ (by omega) (by omega) ?_))))
      · rw [if_pos (show bitOf (m : Int) i = true from decide_eq_true h1)] at h
        rw [List.append_assoc]; exact h
      · rw [if_neg (show ¬ bitOf (m : Int) i = true from fun z => h1 (of_decide_eq_true z))] at h
        exact h
  exact key l.length 0 [] (by omega) (Nat.le_refl _) h
theorem impl_BestFive_ev (l : List Int) (hl : l.length ≤ 1048576000) : Ev (fun k => impl_BestFive.f k l) (bestFive l) := by
  have loop : ∀ (l : List Int) (h1 : 5 ≤ l.length) (h2 : l.length ≤ 7) (d m : Nat) (best : List Int), m + d = masks l → best.length ≤ 7 → Ev (fun k => impl_BestFive.l0 k l best (masks l : Int) (m : Int)) (bestFrom l d m best) := by
    intro l h1 h2 d
    obtain ⟨e, hm⟩ := masks_ok l h1 h2
    induction d with
    | zero =>
      intro m best hd hb
      refine ev_unfold (fun k => rfl) ?_
      simp only [impl_BestFive.l0]
      exact ev_neg (by omega) (Ev.now _)
    | succ d ih =>
      intro m best hd hb
      refine ev_unfold (fun k => rfl) ?_
      simp only [impl_BestFive.l0]
      have hp := pickF_length (m : Int) l 0
      exact ev_pos (by omega) (impl_BestFive_in l best m h2 hb (by omega) (masks l : Int) (ih (m + 1) _ (by omega) (keep5_length hb (by omega))))
  have j0 : ∀ b : Bool, b = !(isHand l && inR (l.length : Int) 5 7) → Ev (fun k => impl_BestFive.j0 k l b) (bestFive l) := by
    intro b hb
    refine ev_unfold (fun k => rfl) ?_
    simp only [impl_BestFive.j0]
    unfold bestFive
    refine ev_ite (fun h => ?_) (fun h => ?_)
    · rw [if_neg]
      · exact Ev.now _
      · rintro ⟨g1, g2⟩
        rw [hb, g1, g2] at h
        cases h
    · have hg : isHand l = true ∧ inR (l.length : Int) 5 7 = true := by
        cases h1 : isHand l <;> cases h2 : inR (l.length : Int) 5 7 <;> simp [hb, h1, h2] at h ⊢
      have hr := (inR_iff _ _ _).1 hg.2
      rw [if_pos hg]
      have sl := sorted_length l
      refine Ev.bind (impl_Sorted_ev l hl) ?_
      rw [(masks_ok (sorted l) (by omega) (by omega)).1]
      exact (loop (sorted l) (by omega) (by omega) (masks (sorted l)) 0 [] (by omega) (Nat.zero_le _))
  simp only [impl_BestFive.f, Option.bind_some, impl_InRange_eq]
  refine Ev.bind (impl_IsHand_ev l hl) (ev_ite (fun h => j0 _ (by rw [h]; rfl)) (fun h => j0 _ ?_))
  have : isHand l = false := by simpa using h
  rw [this]; rfl

theorem laws_eqIntS_ev (a b : List Int) (ha : a.length ≤ 1048576000) : Ev (fun k => laws_eqIntS.f k a b) (decide (a = b)) := by
  simp only [laws_eqIntS.f]
  refine ev_ite (fun hlen => ?_) (fun hne => ev_ret ?_)
  · have hlen' : a.length = b.length := by omega
    have h := ev_loop (fun k (_ : Unit) i => laws_eqIntS.l0 k a b i) a (fun _ r => decide (r = b.drop (a.length - r.length))) (fun _ _ => True) ?_ ?_ () 0 (by omega) trivial
    · refine ev_done h ?_
      simp
    · rintro _ _
      refine ev_unfold (fun k => rfl) ?_
      simp only [laws_eqIntS.l0]
      refine ev_neg (by omega) (ev_ret ?_)
      rw [List.length_nil, Nat.sub_zero, hlen', drop_end]
      simp
    · rintro _ i hi _ ih
      refine ev_unfold (fun k => rfl) ?_
      simp only [laws_eqIntS.l0]
      refine ev_pos (by omega) (ev_pos (by omega) (ev_pos (by omega) ?_))
      rw [w64next i (by omega), rd_at a i hi, rd_at b i (by omega)]
      have e1 : a.length - (a[i] :: a.drop (i + 1)).length = i := by simp; omega
      have e2 : a.length - (a.drop (i + 1)).length = i + 1 := by simp; omega
      refine ev_ite (fun heq => ?_) (fun hne => ev_ret ?_)
      · refine ev_done (ih () trivial) ?_
        rw [e1, e2, drop_at b i (by omega), heq]
        exact decide_eq_decide.2 ⟨fun h => by rw [h], fun h => (List.cons.inj h).2⟩
      · rw [e1, drop_at b i (by omega)]
        exact (decide_eq_false (fun h => hne (List.cons.inj h).1)).symm
  · have : a ≠ b := by rintro rfl; exact hne rfl
    simp [this]

theorem laws_markIntS_ev (l : List Int) (a : Int) (hl : l.length ≤ 1073741824) (ha : 0 ≤ a ∧ a ≤ 1073741824) : Ev (fun k => laws_markIntS.f k l a) (a + (l.length : Int), marks a l.length) := by
  simp only [laws_markIntS.f]
  refine ev_loop (fun k (s : List Int × Int) i => laws_markIntS.l0 k s.1 s.2 i) l (fun _ _ => (a + (l.length : Int), marks a l.length)) (fun s i => s.1.length = l.length ∧ s.2 = a + i ∧ s.1.take i = marks a i) ?_ ?_ (l, a) 0 (by omega) ⟨rfl, by simp, by simp [marks]⟩
  · rintro ⟨s, n⟩ ⟨h1, h2, h3⟩
    simp only at h1 h2 h3
    refine ev_unfold (fun k => rfl) ?_
    simp only [laws_markIntS.l0]
    refine ev_neg (by omega) (ev_ret ?_)
    rw [List.take_of_length_le (by omega)] at h3
    rw [h2, h3]
  · rintro ⟨s, n⟩ i hi ⟨h1, h2, h3⟩ ih
    simp only at h1 h2 h3
    refine ev_unfold (fun k => rfl) ?_
    simp only [laws_markIntS.l0]
    refine ev_pos (by omega) (ev_pos (by omega) ?_)
    rw [w64next i (by omega), Int.toNat_natCast, w64 (n + 1) (by omega)]
    refine ih (s.set i n, n + 1) ⟨by simpa using h1, by simp only; omega, ?_⟩
    simp only [h2]
    exact marks_step a s i (by omega) h3

theorem laws_heldIntS_ev (n : Nat) (a : Int) (hn : n ≤ 1073741824) (ha : 0 ≤ a ∧ a ≤ 1073741824) : Ev (fun k => laws_heldIntS.f k (marks a n) a) (a + (n : Int)) := by
  have hl := marks_length a n
  simp only [laws_heldIntS.f]
  refine ev_loop (fun k (s : Int) i => laws_heldIntS.l0 k (marks a n) s i) (marks a n) (fun _ _ => a + (n : Int)) (fun s i => s = a + i) ?_ ?_ a 0 (by omega) (by simp)
  · rintro s h
    refine ev_unfold (fun k => rfl) ?_
    simp only [laws_heldIntS.l0]
    refine ev_neg (by omega) (ev_ret ?_)
    rw [h, hl]
  · rintro s i hi h ih
    refine ev_unfold (fun k => rfl) ?_
    simp only [laws_heldIntS.l0]
    refine ev_pos (by omega) (ev_pos (by omega) ?_)
    rw [w64next i (by omega), rd_at _ i hi, marks_at, w64 (s + 1) (by omega)]
    refine ev_pos h.symm (ih _ (by omega))

theorem FnExactBestFive : laws_FnExactBestFive.Pure := by
  intro l _ _ _
  refine Ev.rounds ?_
  simp only [laws_FnExactBestFive.f]
  refine ev_ite (fun _ => Ev.now _) (fun h => ?_)
  have hl : l.length ≤ 1048576000 := by omega
  have hg := bestFive_length l
  have eqs := laws_eqIntS_ev (bestFive l) (bestFive l) (by omega)
  have j0 : Ev (fun k => laws_FnExactBestFive.j0 k l (bestFive l) (bestFive l) false) true := by
    refine ev_unfold (fun k => rfl) ?_
    simp only [laws_FnExactBestFive.j0]
    refine ev_neg (by simp) (Ev.bind (laws_markIntS_ev _ 1 (by omega) (by omega)) (Ev.bind (laws_heldIntS_ev _ 1 (by omega) (by omega)) (ev_neg (by omega) (ev_pos rfl ?_))))
    refine Ev.bind (laws_toIntS_ev l hl) (Ev.bind (impl_BestFive_ev l hl) (Ev.bind eqs (ev_pos (by simp) ?_)))
    exact Ev.bind (laws_heldIntS_ev _ 1 (by omega) (by omega)) (ev_neg (by omega) (ev_pos rfl (Ev.now _)))
  refine Ev.bind (laws_toIntS_ev l hl) (Ev.bind (spec_BestFive_ev l hl) (Ev.bind (laws_toIntS_ev l hl) (Ev.bind (impl_BestFive_ev l hl) (Ev.bind eqs (ev_pos (by simp) ?_)))))
  refine Ev.bind (laws_toIntS_ev l hl) (Ev.bind (laws_eqIntS_ev l l (by omega)) (ev_pos (by simp) ?_))
  refine Ev.bind (laws_markIntS_ev l 1 (by omega) (by omega)) (ev_neg (by simp only; omega) (Ev.bind eqs ?_))
  refine ev_done (Ev.congr (fun k => ?_) j0) rfl
  simp

end Go.Proofs.Ytgnimdlakocpjaa.Pure
