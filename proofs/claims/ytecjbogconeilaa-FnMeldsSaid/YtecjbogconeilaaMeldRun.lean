/- The runs of a hand, and that the melds of both sides are the same. -/
import Derived.Test.YtecjbogconeilaaMeldSet
import Derived.Test.YtecjbogconeilaaMarks
namespace Go.Proofs.Ytecjbogconeilaa.Lib
open Go.RowKit Go.Proofs.YtecjbogconeilaaW.PrintWords
set_option linter.unusedVariables false
set_option linter.unusedSimpArgs false

theorem runP_mem (l : List Int) (c : Int) (x : List Int) : ∀ (n : Nat) (run : List Int) (k : Int), x ∈ runP l c n run k ↔ ∃ m : Nat, 1 ≤ m ∧ m ≤ n ∧ (∀ j : Nat, j < m → hasCard l (k + (j : Int)) = true ∧ suitOf (k + (j : Int)) = suitOf c) ∧ x = run ++ (List.range m).map (fun (j : Nat) => k + (j : Int)) ∧ 3 ≤ run.length + m
  | 0, run, k => by
    unfold runP
    constructor
    · intro h; cases h
    · rintro ⟨m, h1, h2, _⟩; omega
  | n + 1, run, k => by
    unfold runP
    by_cases h : hasCard l k = true ∧ suitOf k = suitOf c
    · rw [if_pos h, List.mem_append, runP_mem l c x n (run ++ [k]) (k + 1)]
      constructor
      · rintro (h1 | ⟨m, h1, h2, h3, h4, h5⟩)
        · split at h1
          · rename_i h3
            rw [List.mem_singleton.1 h1]
            refine ⟨1, Nat.le_refl _, by omega, fun j hj => ?_, ?_, by omega⟩
            · obtain rfl : j = 0 := by omega
              simpa using h
            · simp
          · cases h1
        · refine ⟨m + 1, by omega, by omega, fun j hj => ?_, ?_, by simp at h5; omega⟩
          · rcases j with _ | j
            · simpa using h
            · have := h3 j (by omega)
              rw [show k + ((j + 1 : Nat) : Int) = k + 1 + (j : Int) by omega]
              exact this
          · rw [h4, List.range_succ_eq_map, List.map_cons, List.map_map, List.append_assoc]
            congr 1
            rw [List.singleton_append]
            congr 1
            · simp
            · apply List.map_congr_left
              intro j _
              show k + 1 + (j : Int) = k + ((j + 1 : Nat) : Int)
              omega
      · rintro ⟨m, h1, h2, h3, h4, h5⟩
        rcases Nat.lt_or_ge 1 m with hm | hm
        · right
          obtain ⟨p, rfl⟩ : ∃ p, m = p + 1 := ⟨m - 1, by omega⟩
          refine ⟨p, by omega, by omega, fun j hj => ?_, ?_, by simp; omega⟩
          · have := h3 (j + 1) (by omega)
            rw [show k + ((j + 1 : Nat) : Int) = k + 1 + (j : Int) by omega] at this
            exact this
          · rw [h4, List.range_succ_eq_map, List.map_cons, List.map_map, List.append_assoc]
            congr 1
            rw [List.singleton_append]
            congr 1
            · simp
            · apply List.map_congr_left
              intro j _
              show k + ((j + 1 : Nat) : Int) = k + 1 + (j : Int)
              omega
        · left
          obtain rfl : m = 1 := by omega
          rw [if_pos (by omega), h4]
          simp
    · rw [if_neg h]
      constructor
      · intro h1; cases h1
      · rintro ⟨m, h1, _, h3, _⟩
        have := h3 0 (by omega)
        simp at this
        exact absurd this h
theorem runP_length (l : List Int) (c : Int) (n : Nat) (run : List Int) (k : Int) : ∀ x ∈ runP l c n run k, run.length < x.length := by
  intro x h
  obtain ⟨m, h1, _, _, rfl, _⟩ := (runP_mem l c x n run k).1 h
  simp; omega
theorem runP_nodup (l : List Int) (c : Int) : ∀ (n : Nat) (run : List Int) (k : Int), (runP l c n run k).Nodup
  | 0, _, _ => List.Pairwise.nil
  | n + 1, run, k => by
    unfold runP
    split
    · refine List.pairwise_append.2 ⟨?_, runP_nodup l c n _ _, ?_⟩
      · split
        · exact List.pairwise_singleton _ _
        · exact List.Pairwise.nil
      · intro a ha b hb e
        split at ha
        · rw [List.mem_singleton.1 ha] at e
          have := runP_length l c n _ _ b hb
          rw [← e] at this
          omega
        · cases ha
    · exact List.Pairwise.nil
theorem chain_at (c : Int) (m j : Nat) (hj : j < m) : rd ((List.range m).map (fun (j : Nat) => c + (j : Int))) (j : Int) = c + (j : Int) := by
  rw [rd_at _ _ (by simpa using hj)]; simp
/-- An ascending run. -/
theorem runMeld_iff {x : List Int} (hx : x.Pairwise (· < ·)) : runMeld x = true ↔ (∀ y ∈ x, isCard y = true) ∧ 3 ≤ x.length ∧ ∀ j : Nat, j < x.length → suitOf (rd x (j : Int)) = suitOf (rd x 0) ∧ rd x (j : Int) = rd x 0 + (j : Int) := by
  unfold runMeld
  rw [sorted_of_asc hx, Bool.and_eq_true, Bool.and_eq_true, isHand_iff, allFrom_iff, decide_eq_true_eq]
  constructor
  · rintro ⟨⟨h1, _⟩, h3, h4⟩
    have hr : ∀ j : Nat, j < x.length → 0 ≤ rd x (j : Int) ∧ rd x (j : Int) ≤ 51 := fun j hj => by rw [rd_at x j hj]; exact (isCard_iff _).1 (h1 _ (List.getElem_mem hj))
    have hlen : x.length ≤ 52 := by
      have := (sub_of_asc x ((List.range 52).map (fun (n : Nat) => (n : Int))) hx (by rw [List.pairwise_map]; exact (List.pairwise_lt_range (n := 52)).imp (fun h => by omega)) (fun y hy => by
        have hy2 := (isCard_iff _).1 (h1 y hy)
        exact List.mem_map.2 ⟨y.toNat, List.mem_range.2 (by omega), by omega⟩)).length_le
      simpa using this
    refine ⟨h1, h3, fun j hj => ?_⟩
    have h5 := h4 j hj (Nat.zero_le _)
    unfold chainB at h5
    rw [Bool.and_eq_true, decide_eq_true_eq, decide_eq_true_eq] at h5
    have h0 := hr 0 (by omega)
    rw [show ((0 : Nat) : Int) = 0 from rfl] at h0
    rw [w64 _ (by omega)] at h5
    exact h5
  · rintro ⟨h1, h3, h4⟩
    have hr : ∀ j : Nat, j < x.length → 0 ≤ rd x (j : Int) ∧ rd x (j : Int) ≤ 51 := fun j hj => by rw [rd_at x j hj]; exact (isCard_iff _).1 (h1 _ (List.getElem_mem hj))
    refine ⟨⟨h1, asc_nodup hx⟩, h3, fun j hj _ => ?_⟩
    unfold chainB
    rw [Bool.and_eq_true, decide_eq_true_eq, decide_eq_true_eq]
    have h0 := hr 0 (by omega)
    have hjr := hr j hj
    rw [show ((0 : Nat) : Int) = 0 from rfl] at h0
    have h5 := h4 j hj
    rw [w64 _ (by omega)]
    exact h5
theorem run_mem {l x : List Int} {c : Nat} (hl : ∀ y ∈ l, isCard y = true) (h : x ∈ runP l (c : Int) 53 [] (c : Int)) : IsMeld l x ∧ runMeld x = true ∧ rd x 0 = (c : Int) := by
  obtain ⟨m, h1, h2, h3, hx, h5⟩ := (runP_mem l (c : Int) x 53 [] (c : Int)).1 h
  rw [List.nil_append] at hx
  have hlen : x.length = m := by rw [hx]; simp
  have h3m : 3 ≤ m := by simpa using h5
  have hat : ∀ j : Nat, j < m → rd x (j : Int) = (c : Int) + (j : Int) := fun j hj => by rw [hx]; exact chain_at _ _ _ hj
  have h0 : rd x 0 = (c : Int) := by
    have := hat 0 (by omega)
    simpa using this
  have hasc : x.Pairwise (· < ·) := by
    rw [hx, List.pairwise_map]
    exact (List.pairwise_lt_range (n := m)).imp (fun h => by omega)
  have hin : ∀ y ∈ x, y ∈ l := by
    intro y hy
    rw [hx] at hy
    obtain ⟨j, hj, rfl⟩ := List.mem_map.1 hy
    exact of_decide_eq_true (h3 j (List.mem_range.1 hj)).1
  have hrun : runMeld x = true := by
    rw [runMeld_iff hasc]
    refine ⟨fun y hy => hl y (hin y hy), by omega, fun j hj => ?_⟩
    rw [hat j (by omega), h0]
    exact ⟨(h3 j (by omega)).2, rfl⟩
  exact ⟨⟨hasc, hin, .inr hrun⟩, hrun, h0⟩
theorem run_in {l x : List Int} (h : IsMeld l x) (hr : runMeld x = true) : ∃ c : Nat, c < 52 ∧ x ∈ runP l (c : Int) 53 [] (c : Int) := by
  obtain ⟨h1, h2, _⟩ := h
  obtain ⟨g1, g2, g3⟩ := (runMeld_iff h1).1 hr
  have hc : ∀ j : Nat, j < x.length → 0 ≤ rd x (j : Int) ∧ rd x (j : Int) ≤ 51 := fun j hj => by rw [rd_at x j hj]; exact (isCard_iff _).1 (g1 _ (List.getElem_mem hj))
  have h0 := hc 0 (by omega)
  rw [show ((0 : Nat) : Int) = 0 from rfl] at h0
  have hlast := hc (x.length - 1) (by omega)
  rw [(g3 (x.length - 1) (by omega)).2] at hlast
  refine ⟨(rd x 0).toNat, by omega, ?_⟩
  have e0 : (((rd x 0).toNat : Nat) : Int) = rd x 0 := by omega
  rw [e0]
  refine (runP_mem l (rd x 0) x 53 [] (rd x 0)).2 ⟨x.length, by omega, by omega, fun j hj => ?_, ?_, by simpa using g2⟩
  · obtain ⟨a, b⟩ := g3 j hj
    rw [← b]
    refine ⟨decide_eq_true (h2 _ ?_), a⟩
    rw [rd_at x j hj]; exact List.getElem_mem hj
  · rw [List.nil_append]
    apply List.ext_getElem
    · simp
    · intro i hi _
      have := (g3 i hi).2
      rw [rd_at x i hi] at this
      rw [this]; simp
theorem set_not_run {x : List Int} (h1 : x.Pairwise (· < ·)) (hs : setMeld x = true) : runMeld x = false := by
  rcases hb : runMeld x with _ | _
  · rfl
  · exfalso
    obtain ⟨g1, g2, g3⟩ := (runMeld_iff h1).1 hb
    unfold setMeld at hs
    rw [Bool.and_eq_true, Bool.and_eq_true, List.all_eq_true] at hs
    have e1 := (g3 1 (by omega))
    have hm : rd x ((1 : Nat) : Int) ∈ x := by rw [rd_at x 1 (by omega)]; exact List.getElem_mem _
    have hm0 : rd x 0 ∈ x := by
      have := rd_at x 0 (by omega)
      rw [show ((0 : Nat) : Int) = 0 from rfl] at this
      rw [this]; exact List.getElem_mem _
    have e2 := of_decide_eq_true (hs.2.2 _ hm)
    unfold rankOf at e2
    rw [if_pos (g1 _ hm), if_pos (g1 _ hm0), e1.2] at e2
    omega
theorem specMelds_mem {l x : List Int} (hl : ∀ y ∈ l, isCard y = true) : x ∈ specMelds l ↔ IsMeld l x := by
  unfold specMelds
  rw [List.mem_append, List.mem_flatMap, List.mem_flatMap]
  constructor
  · rintro (⟨r, hr, h⟩ | ⟨c, hc, h⟩)
    · exact (setPart_mem (List.mem_range.1 hr) h).1
    · exact (run_mem hl h).1
  · intro h
    rcases h.2.2 with hs | hr
    · obtain ⟨r, hr, h2⟩ := set_in h hs
      exact .inl ⟨r, List.mem_range.2 hr, h2⟩
    · obtain ⟨c, hc, h2⟩ := run_in h hr
      exact .inr ⟨c, List.mem_range.2 hc, h2⟩
theorem setPart_nodup (l : List Int) (r : Nat) : (setPart l r).Nodup := by
  have ha := asc_nodup (sameOf_asc l r)
  unfold setPart
  refine List.pairwise_append.2 ⟨?_, ?_, ?_⟩
  · split
    · exact List.pairwise_singleton _ _
    · exact List.Pairwise.nil
  · split
    · rw [List.pairwise_map]
      refine List.Pairwise.imp_of_mem ?_ ha
      intro a b hma hmb hab e
      have h1 : b ∈ (sameOf l r).filter (fun y => decide (y ≠ a)) := List.mem_filter.2 ⟨hmb, decide_eq_true (fun h => hab h.symm)⟩
      rw [e] at h1
      have := (List.mem_filter.1 h1).2
      simp at this
    · exact List.Pairwise.nil
  · intro a h1 b h2 e
    split at h1
    · split at h2
      · obtain ⟨c, hc, rfl⟩ := List.mem_map.1 h2
        rw [List.mem_singleton.1 h1] at e
        have := filter_one (sameOf l r) c ha hc
        rw [← e] at this
        omega
      · cases h2
    · cases h1
theorem meld_ne {l x : List Int} (h : IsMeld l x) : 3 ≤ x.length := by
  rcases h.2.2 with hs | hr
  · unfold setMeld at hs
    rw [Bool.and_eq_true, Bool.and_eq_true, inR_iff] at hs
    omega
  · exact ((runMeld_iff h.1).1 hr).2.1
theorem specMelds_nodup {l : List Int} (hl : ∀ y ∈ l, isCard y = true) : (specMelds l).Nodup := by
  unfold specMelds
  refine List.pairwise_append.2 ⟨List.pairwise_flatMap.2 ⟨fun r _ => setPart_nodup l r, ?_⟩, List.pairwise_flatMap.2 ⟨fun c _ => runP_nodup l _ _ _ _, ?_⟩, ?_⟩
  · refine List.Pairwise.imp_of_mem ?_ (List.pairwise_lt_range (n := 13))
    intro a b ha hb hab x hx y hy e
    have h1 := setPart_mem (List.mem_range.1 ha) hx
    have h2 := setPart_mem (List.mem_range.1 hb) hy
    have h3 := meld_ne h1.1
    have hm : x[0]'(by omega) ∈ x := List.getElem_mem _
    have e1 := h1.2.2 _ hm
    have e2 := h2.2.2 (x[0]'(by omega)) (by rw [← e]; exact hm)
    omega
  · refine List.Pairwise.imp_of_mem ?_ (List.pairwise_lt_range (n := 52))
    intro a b _ _ hab x hx y hy e
    have h1 := (run_mem hl hx).2.2
    have h2 := (run_mem hl hy).2.2
    rw [e] at h1
    omega
  · intro x hx y hy e
    obtain ⟨r, hr, h⟩ := List.mem_flatMap.1 hx
    obtain ⟨c, hc, h'⟩ := List.mem_flatMap.1 hy
    have h1 := setPart_mem (List.mem_range.1 hr) h
    have h2 := run_mem hl h'
    have h3 := set_not_run h1.1.1 h1.2.1
    rw [e, h2.2.1] at h3
    cases h3
/-- The list that both sides build. -/
def meldsOf (l : List Int) : List (List Int) := putAll [] (implMelds l)
theorem melds_same {l : List Int} (h : isHand l = true) : putAll [] (specMelds l) = meldsOf l := by
  rw [isHand_iff] at h
  exact putAll_unique (specMelds_nodup h.1) (implMelds_nodup h.2) (fun x => (specMelds_mem h.1).trans (implMelds_mem h.2).symm)
theorem meldsOf_mem {l x : List Int} (h : isHand l = true) : x ∈ meldsOf l ↔ IsMeld l x := by
  rw [isHand_iff] at h
  have := (putAll_perm (implMelds l) []).mem_iff (a := x)
  rw [List.nil_append] at this
  exact this.trans (implMelds_mem h.2)
def okM (l : List Int) : Bool := isHand l && decide (l.length ≤ 12)
def meldsIn (l : List Int) : List (List Int) := if okM l = true then meldsOf l else []
theorem meldsIn_small (l : List Int) : totalLen (meldsIn l) ≤ 2097152 ∧ (meldsIn l).length ≤ 4096 ∧ ∀ r ∈ meldsIn l, r.length ≤ 12 := by
  unfold meldsIn
  by_cases g : okM l = true
  · rw [if_pos g]
    unfold okM at g
    rw [Bool.and_eq_true, decide_eq_true_eq] at g
    have hlen : (meldsOf l).length ≤ 4096 := by
      unfold meldsOf
      rw [(putAll_perm (implMelds l) []).length_eq, List.nil_append]
      unfold implMelds
      refine Nat.le_trans (List.length_filter_le _ _) ?_
      rw [List.length_map, List.length_range, sorted_length]
      exact Nat.pow_le_pow_right (by omega) g.2
    have hr : ∀ r ∈ meldsOf l, r.length ≤ 12 := by
      intro r hr
      have := (meldsOf_mem g.1).1 hr
      have h2 := sub_of_asc r (sorted l) this.1 (sorted_lt ((isHand_iff l).1 g.1).2) (fun y hy => mem_sorted.2 (this.2.1 y hy))
      have := h2.length_le
      rw [sorted_length] at this
      omega
    have := totalLen_le (meldsOf l) 12 hr
    exact ⟨by omega, hlen, hr⟩
  · rw [if_neg g]
    exact ⟨by simp [totalLen], by simp, fun r hr => by cases hr⟩
end Go.Proofs.Ytecjbogconeilaa.Lib
