/- What is left over is no more than what is left of a hand without one of its melds. No condition. -/
import Derived.Test.YtecjbogconeilaaLeft
namespace Go.Proofs.Ytecjbogconeilaa.Lib
open Go.RowKit Go.Proofs.YtecjbogconeilaaW.PrintWords
set_option linter.unusedVariables false
set_option linter.unusedSimpArgs false

theorem minus_filter : ∀ (m l : List Int), minusF l m = l.filter (fun y => decide (y ∉ m))
  | [], l => by
    show l = _
    rw [List.filter_eq_self.2 (fun y _ => by simp)]
  | c :: m, l => by
    show minusF (l.filter (fun y => decide (y ≠ c))) m = _
    rw [minus_filter m, List.filter_filter]
    apply List.filter_congr
    intro y _
    rw [Bool.eq_iff_iff]
    simp only [Bool.and_eq_true, decide_eq_true_eq, List.mem_cons, not_or]
    constructor
    · intro h; exact ⟨h.2, h.1⟩
    · intro h; exact ⟨h.2, h.1⟩
theorem whole_iff : ∀ (m l : List Int), m.Nodup → (wholeF l m = true ↔ ∀ c ∈ m, c ∈ l)
  | [], l, _ => ⟨fun _ c hc => (by cases hc), fun _ => rfl⟩
  | c :: m, l, h => by
    have h2 := List.nodup_cons.1 h
    show (hasCard l c && wholeF (l.filter (fun y => decide (y ≠ c))) m) = true ↔ _
    rw [Bool.and_eq_true, whole_iff m _ h2.2]
    unfold hasCard
    rw [decide_eq_true_eq]
    constructor
    · rintro ⟨g1, g2⟩ x hx
      rcases List.mem_cons.1 hx with rfl | hx
      · exact g1
      · exact (List.mem_filter.1 (g2 x hx)).1
    · intro g
      refine ⟨g c List.mem_cons_self, fun x hx => List.mem_filter.2 ⟨g x (List.mem_cons_of_mem _ hx), decide_eq_true (fun e => h2.1 (e ▸ hx))⟩⟩
def wholes : List Int → List (List Int) → Prop
  | _, [] => True
  | l, m :: c => wholeF l m = true ∧ wholes (minusF l m) c
def minusAll (l : List Int) (c : List (List Int)) : List Int := c.foldl minusF l
theorem least_le : ∀ (M : List (List Int)) (l : List Int) (o : Int), leastF M l o ≤ o
  | [], l, o => Int.le_refl _
  | m :: r, l, o => by
    unfold leastF
    refine Int.le_trans (least_le r l _) ?_
    split
    · exact Int.min_le_left _ _
    · exact Int.le_refl _
theorem least_lower : ∀ (M : List (List Int)) (l : List Int) (o : Int) (c : List (List Int)), c.Sublist M → wholes l c → o ≤ valW 0 l → leastF M l o ≤ valW 0 (minusAll l c)
  | [], l, o, c, hs, hw, ho => by
    rw [List.sublist_nil.1 hs]; exact ho
  | m :: r, l, o, c, hs, hw, ho => by
    unfold leastF
    cases hs with
    | cons _ hs =>
      refine least_lower r l _ c hs hw ?_
      split
      · exact Int.le_trans (Int.min_le_left _ _) ho
      · exact ho
    | cons_cons _ hs =>
      rename_i c'
      obtain ⟨h1, h2⟩ := hw
      rw [if_pos h1]
      refine Int.le_trans (least_le r l _) (Int.le_trans (Int.min_le_right _ _) ?_)
      exact least_lower r (minusF l m) _ c' hs h2 (Int.le_refl _)
theorem least_att : ∀ (M : List (List Int)) (l : List Int) (o : Int), leastF M l o = o ∨ ∃ c, c.Sublist M ∧ wholes l c ∧ leastF M l o = valW 0 (minusAll l c)
  | [], l, o => .inl rfl
  | m :: r, l, o => by
    unfold leastF
    by_cases h : wholeF l m = true
    · rw [if_pos h]
      rcases least_att r l (min o (leastF r (minusF l m) (valW 0 (minusF l m)))) with e | ⟨c, h1, h2, h3⟩
      · rw [e]
        by_cases hle : o ≤ leastF r (minusF l m) (valW 0 (minusF l m))
        · exact .inl (Int.min_eq_left hle)
        · rw [Int.min_eq_right (by omega)]
          right
          rcases least_att r (minusF l m) (valW 0 (minusF l m)) with e2 | ⟨c, h1, h2, h3⟩
          · exact ⟨[m], (List.nil_sublist r).cons_cons m, ⟨h, trivial⟩, e2⟩
          · exact ⟨m :: c, h1.cons_cons m, ⟨h, h2⟩, h3⟩
      · exact .inr ⟨c, h1.cons m, h2, h3⟩
    · rw [if_neg h]
      rcases least_att r l o with e | ⟨c, h1, h2, h3⟩
      · exact .inl e
      · exact .inr ⟨c, h1.cons m, h2, h3⟩
def Apart (a b : List Int) : Prop := ∀ y ∈ a, y ∉ b
theorem wholes_iff : ∀ (c : List (List Int)) (l : List Int), (∀ m ∈ c, m.Nodup) → (wholes l c ↔ (∀ m ∈ c, ∀ y ∈ m, y ∈ l) ∧ c.Pairwise Apart)
  | [], l, _ => ⟨fun _ => ⟨fun m hm => (by cases hm), List.Pairwise.nil⟩, fun _ => trivial⟩
  | m :: c, l, h => by
    show (wholeF l m = true ∧ wholes (minusF l m) c) ↔ _
    rw [whole_iff m l (h m List.mem_cons_self), wholes_iff c _ (fun x hx => h x (List.mem_cons_of_mem _ hx)), List.pairwise_cons, minus_filter]
    constructor
    · rintro ⟨h1, h2, h3⟩
      refine ⟨fun x hx y hy => ?_, fun x hx y hy hyx => ?_, h3⟩
      · rcases List.mem_cons.1 hx with rfl | hx
        · exact h1 y hy
        · exact (List.mem_filter.1 (h2 x hx y hy)).1
      · exact of_decide_eq_true (List.mem_filter.1 (h2 x hx y hyx)).2 hy
    · rintro ⟨h1, h2, h3⟩
      exact ⟨fun y hy => h1 m List.mem_cons_self y hy, fun x hx y hy => List.mem_filter.2 ⟨h1 x (List.mem_cons_of_mem _ hx) y hy, decide_eq_true (fun hym => h2 x hx y hym hy)⟩, h3⟩
theorem minusAll_filter : ∀ (c : List (List Int)) (l : List Int), minusAll l c = l.filter (fun y => decide (∀ m ∈ c, y ∉ m))
  | [], l => by
    show l = _
    rw [List.filter_eq_self.2 (fun y _ => by simp)]
  | m :: c, l => by
    show minusAll (minusF l m) c = _
    rw [minusAll_filter c, minus_filter, List.filter_filter]
    apply List.filter_congr
    intro y _
    rw [Bool.eq_iff_iff]
    simp only [Bool.and_eq_true, decide_eq_true_eq, List.mem_cons, forall_eq_or_imp]
    constructor
    · intro h; exact ⟨h.2, h.1⟩
    · intro h; exact ⟨h.2, h.1⟩
theorem rising_sub : ∀ (M c : List (List Int)), Rising c → Rising M → (∀ x ∈ c, x ∈ M) → c.Sublist M
  | [], c, _, _, h => by
    cases c with
    | nil => exact List.Sublist.slnil
    | cons x c => exact absurd (h x List.mem_cons_self) (by simp)
  | a :: r, [], _, _, _ => List.nil_sublist _
  | a :: r, x :: c, hc, hM, h => by
    have hc2 := List.pairwise_cons.1 hc
    have hM2 := List.pairwise_cons.1 hM
    by_cases e : x = a
    · subst e
      refine (rising_sub r c hc2.2 hM2.2 (fun y hy => ?_)).cons_cons x
      rcases List.mem_cons.1 (h y (List.mem_cons_of_mem _ hy)) with rfl | hy2
      · have := hc2.1 y hy
        rw [before_irrefl] at this; cases this
      · exact hy2
    · have hx : x ∈ r := (List.mem_cons.1 (h x List.mem_cons_self)).resolve_left e
      refine (rising_sub r (x :: c) hc hM2.2 (fun y hy => ?_)).cons a
      rcases List.mem_cons.1 hy with rfl | hy2
      · exact hx
      · rcases List.mem_cons.1 (h y hy) with rfl | hy3
        · have h1 := hc2.1 y hy2
          have h2 := hM2.1 x hx
          rw [before_asymm _ _ h1] at h2; cases h2
        · exact hy3
theorem meldsOf_rising {l : List Int} (h : isHand l = true) : Rising (meldsOf l) :=
  putAll_rising (implMelds l) [] List.Pairwise.nil (by rw [List.nil_append]; exact implMelds_nodup ((isHand_iff l).1 h).2)
theorem okM_iff (l : List Int) (h : okM l = true) : isHand l = true ∧ l.Nodup ∧ l.length ≤ 12 := by
  unfold okM at h
  rw [Bool.and_eq_true, decide_eq_true_eq] at h
  exact ⟨h.1, ((isHand_iff l).1 h.1).2, h.2⟩
theorem meldsIn_mem {l x : List Int} (h : okM l = true) : x ∈ meldsIn l ↔ IsMeld l x := by
  unfold meldsIn
  rw [if_pos h]; exact meldsOf_mem (okM_iff l h).1
theorem meldsIn_rising (l : List Int) : Rising (meldsIn l) := by
  unfold meldsIn
  split
  · rename_i h; exact meldsOf_rising (okM_iff l h).1
  · exact List.Pairwise.nil
theorem okM_sub {l r : List Int} (h : okM l = true) (hs : r.Sublist l) : okM r = true := by
  obtain ⟨h1, h2, h3⟩ := okM_iff l h
  unfold okM
  rw [Bool.and_eq_true, decide_eq_true_eq, isHand_iff]
  exact ⟨⟨fun y hy => ((isHand_iff l).1 h1).1 y (hs.mem hy), h2.sublist hs⟩, Nat.le_trans hs.length_le h3⟩
theorem left_le {l m : List Int} (h : okM l = true) (hm : m ∈ meldsIn l) : leftOver l ≤ leftOver (l.filter (fun y => decide (y ∉ m))) := by
  obtain ⟨r, hr⟩ : ∃ r, r = l.filter (fun y => decide (y ∉ m)) := ⟨_, rfl⟩
  rw [← hr]
  have hsub : r.Sublist l := by rw [hr]; exact List.filter_sublist
  have hok := okM_sub h hsub
  have hmm := (meldsIn_mem h).1 hm
  unfold leftOver
  rw [if_pos h, if_pos hok]
  obtain ⟨c, hc, hw, hv⟩ : ∃ c, c.Sublist (meldsIn r) ∧ wholes r c ∧ leastF (meldsIn r) r (valW 0 r) = valW 0 (minusAll r c) := by
    rcases least_att (meldsIn r) r (valW 0 r) with e | h2
    · exact ⟨[], List.nil_sublist _, trivial, e⟩
    · exact h2
  rw [hv]
  have hmel : ∀ x ∈ c, IsMeld r x := fun x hx => (meldsIn_mem hok).1 (hc.mem hx)
  have hn : ∀ x ∈ c, x.Nodup := fun x hx => asc_nodup (hmel x hx).1
  obtain ⟨g1, g2⟩ := (wholes_iff c r hn).1 hw
  have hin : ∀ y, y ∈ r ↔ y ∈ l ∧ y ∉ m := fun y => by rw [hr, List.mem_filter, decide_eq_true_eq]
  have h3 := meld_ne hmm
  have hnot : m ∉ c := fun hmc => by
    have hy : m[0]'(by omega) ∈ m := List.getElem_mem _
    exact ((hin _).1 (g1 m hmc _ hy)).2 hy
  have hp := putR_perm c m
  have hmem : ∀ x, x ∈ putR c m ↔ x = m ∨ x ∈ c := fun x => by rw [hp.mem_iff, List.mem_cons]
  have hrise : Rising (putR c m) := putR_rising c m hnot ((meldsIn_rising r).sublist hc)
  have hsl : (putR c m).Sublist (meldsIn l) := by
    refine rising_sub _ _ hrise (meldsIn_rising l) (fun x hx => ?_)
    rcases (hmem x).1 hx with rfl | hx
    · exact hm
    · obtain ⟨a1, a2, a3⟩ := hmel x hx
      exact (meldsIn_mem h).2 ⟨a1, fun y hy => hsub.mem (a2 y hy), a3⟩
  have hwl : wholes l (putR c m) := by
    refine (wholes_iff _ l (fun x hx => ?_)).2 ⟨fun x hx y hy => ?_, ?_⟩
    · rcases (hmem x).1 hx with rfl | hx
      · exact asc_nodup hmm.1
      · exact hn x hx
    · rcases (hmem x).1 hx with rfl | hx
      · exact hmm.2.1 y hy
      · exact hsub.mem (g1 x hx y hy)
    · refine (hp.pairwise_iff (fun {a b} hab y hy hya => hab y hya hy)).2 (List.pairwise_cons.2 ⟨fun x hx y hy hyx => ((hin y).1 (g1 x hx y hyx)).2 hy, g2⟩)
  have hval : minusAll l (putR c m) = minusAll r c := by
    rw [minusAll_filter, minusAll_filter, hr, List.filter_filter]
    apply List.filter_congr
    intro y _
    rw [Bool.eq_iff_iff]
    simp only [Bool.and_eq_true, decide_eq_true_eq]
    constructor
    · intro g; exact ⟨fun x hx => g x ((hmem x).2 (.inr hx)), g m ((hmem m).2 (.inl rfl))⟩
    · rintro ⟨g, g'⟩ x hx
      rcases (hmem x).1 hx with rfl | hx
      · exact g'
      · exact g x hx
  rw [← hval]
  exact least_lower (meldsIn l) l (valW 0 l) _ hsl hwl (Int.le_refl _)
theorem valueOf_range (c : Int) : 0 ≤ valueOf c ∧ valueOf c ≤ 10 := by
  unfold valueOf
  repeat' split
  all_goals omega
theorem valW_pos : ∀ (l : List Int) (s : Int), 0 ≤ s → s + 10 * (l.length : Int) ≤ 1000000000000 → 0 ≤ valW s l
  | [], s, h, _ => h
  | c :: r, s, h, hb => by
    rw [List.length_cons] at hb
    have hv := valueOf_range c
    show 0 ≤ valW (wrap64 (s + valueOf c)) r
    rw [w64 _ (by omega)]
    exact valW_pos r _ (by omega) (by omega)
theorem left_top (l : List Int) (hl : l.length ≤ 1048576) : leftOver l ≤ valW 0 l := by
  unfold leftOver
  split
  · exact least_le _ _ _
  · have := valW_pos l 0 (by omega) (by omega)
    omega
theorem left_none (l : List Int) (h0 : 0 ≤ leftOver l) (hm : (meldsIn l).length = 0) : leftOver l = valW 0 l := by
  unfold leftOver at h0 ⊢
  split
  · rw [List.length_eq_zero_iff.1 hm]; rfl
  · rename_i h; rw [if_neg h] at h0; omega
theorem sorted_hand {a : List Int} (h : isHand a = true) : isHand (sorted a) = true := by
  rw [isHand_iff] at h ⊢
  exact ⟨fun y hy => h.1 y (mem_sorted.1 hy), sorted_nodup h.2⟩
theorem set_found {a : List Int} (h : setMeld a = true) : sorted a ∈ meldsIn a := by
  have hs := h
  unfold setMeld at hs
  rw [Bool.and_eq_true, Bool.and_eq_true, inR_iff, List.all_eq_true] at hs
  obtain ⟨g1, g3, g4⟩ := hs
  have hc := ((isHand_iff a).1 g1).1
  have hn := ((isHand_iff a).1 g1).2
  have hok : okM a = true := by
    unfold okM
    rw [g1, Bool.true_and, decide_eq_true_eq]; omega
  have sl := sorted_length a
  refine (meldsIn_mem hok).2 ⟨sorted_lt hn, fun y hy => mem_sorted.1 hy, .inl ?_⟩
  have h0 : rd a 0 ∈ a := by
    have := rd_at a 0 (by omega)
    rw [show ((0 : Nat) : Int) = 0 from rfl] at this
    rw [this]; exact List.getElem_mem _
  have c0 := (isCard_iff _).1 (hc _ h0)
  refine setMeld_of (r := (rd a 0 % 13).toNat) (by omega) (sorted_lt hn) (fun y hy => ?_) (by omega) (by omega)
  have hy2 := mem_sorted.1 hy
  have cy := (isCard_iff _).1 (hc _ hy2)
  have e := of_decide_eq_true (g4 y hy2)
  unfold rankOf at e
  rw [if_pos (hc _ hy2), if_pos (hc _ h0)] at e
  exact ⟨(y / 13).toNat, by omega, by omega⟩
theorem run_found {b : List Int} (h : runMeld b = true) (hl : b.length ≤ 12) : sorted b ∈ meldsIn b := by
  have hs := h
  unfold runMeld at hs
  rw [Bool.and_eq_true, Bool.and_eq_true, decide_eq_true_eq] at hs
  obtain ⟨g1, g3, g4⟩ := hs
  have hn := ((isHand_iff b).1 g1).2
  have hok : okM b = true := by
    unfold okM
    rw [g1, Bool.true_and, decide_eq_true_eq]; exact hl
  have sl := sorted_length b
  refine (meldsIn_mem hok).2 ⟨sorted_lt hn, fun y hy => mem_sorted.1 hy, .inr ?_⟩
  unfold runMeld
  rw [sorted_of_asc (sorted_lt hn), sorted_hand g1, g4, Bool.true_and, Bool.and_true, decide_eq_true_eq]
  omega
end Go.Proofs.Ytecjbogconeilaa.Lib
