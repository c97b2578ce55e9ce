/- In the given program FnExactMeldsIn answers true for every input, by what its functions compute; no condition. -/
import Derived.Test.YtecjbogconeilaaQFnExactMeldsInx0
import Derived.Test.YtecjbogconeilaaQFnExactMeldsInx1
import Derived.Test.YtecjbogconeilaaQFnExactMeldsInx2
import Derived.Test.YtecjbogconeilaaQFnExactMeldsInx3
import Derived.Test.YtecjbogconeilaaQFnExactMeldsInx4
import Derived.Test.YtecjbogconeilaaQFnExactMeldsInx5
import Derived.Test.YtecjbogconeilaaQFnExactMeldsInx6
import Derived.Test.YtecjbogconeilaaQFnExactMeldsInx7
import Derived.Test.YtecjbogconeilaaQFnExactMeldsInx8
import Derived.Test.YtecjbogconeilaaLib
import Derived.Test.YtecjbogconeilaaCards
import Derived.Test.YtecjbogconeilaaCards2
import Derived.Test.YtecjbogconeilaaCalls
import Derived.Test.YtecjbogconeilaaHands
import Derived.Test.YtecjbogconeilaaSort
import Derived.Test.YtecjbogconeilaaDeal
import Derived.Test.YtecjbogconeilaaMarks
import Derived.Test.YtecjbogconeilaaFive
import Derived.Test.YtecjbogconeilaaOrder
import Derived.Test.YtecjbogconeilaaMeldSet
import Derived.Test.YtecjbogconeilaaMeldRun
namespace Go.Proofs.Ytecjbogconeilaa.Pure
open Go.RowKit Go.Proofs.Ytecjbogconeilaa.QFnExactMeldsIn Go.Proofs.YtecjbogconeilaaW.PrintWords Go.Proofs.YtecjbogconeilaaW.PrintLast Go.Proofs.YtecjbogconeilaaW.PrintMore Go.Proofs.Ytecjbogconeilaa.Lib
set_option linter.unusedVariables false
set_option linter.unusedSimpArgs false

theorem rdss_at (l : List (List Int)) (i : Nat) (h : i < l.length) : rd_L1 l (i : Int) = l[i] := by
  unfold rd_L1
  rw [Int.toNat_natCast, List.getD_eq_getElem?_getD, List.getElem?_eq_getElem h]
  rfl

theorem spec_HasCard_ev (l : List Int) (c : Int) (hl : l.length ≤ 1048576000) : Ev (fun k => spec_HasCard.f k l c) (hasCard l c) := by
  simp only [spec_HasCard.f]
  refine ev_done (ev_loop (fun k (_ : Unit) i => spec_HasCard.l0 k l c i) l (fun _ r => hasCard r c) (fun _ _ => True) ?_ ?_ () 0 (by omega) trivial) rfl
  · rintro s _
    refine ev_unfold (fun k => rfl) ?_
    simp only [spec_HasCard.l0]
    exact ev_neg (by omega) (ev_ret (by simp [hasCard]))
  · rintro s i hi _ ih
    refine ev_unfold (fun k => rfl) ?_
    simp only [spec_HasCard.l0]
    rw [w64next i (by omega), rd_at l i hi]
    refine ev_pos (by omega) (ev_pos (by omega) (ev_ite (fun h => ev_ret ?_) (fun h => ev_done (ih () trivial) ?_)))
    · simp [hasCard, h]
    · have h2 : ¬ c = l[i] := fun e => h e.symm
      simp only [hasCard, List.mem_cons]
      exact decide_eq_decide.2 ⟨fun h => .inr h, fun h => h.resolve_left h2⟩

theorem spec_l1In_eq (n a b : Int) : spec_l1In.f n a b = some (inR n a b) := by
  unfold spec_l1In.f inR
  by_cases h : a ≤ n
  · rw [if_pos (by omega)]; simp [h]
  · rw [if_neg (by omega)]; simp [h]

theorem spec_IsCard_eq (c : Int) : spec_IsCard.f c = some (isCard c) := by
  unfold spec_IsCard.f isCard
  rw [spec_l1In_eq]; rfl

theorem spec_IsHand_ev (l : List Int) (hl : l.length ≤ 1048576000) : Ev (fun k => spec_IsHand.f k l) (isHand l) := by
  simp only [spec_IsHand.f]
  refine ev_done (ev_loopN (fun k (_ : Unit) i => spec_IsHand.l0 k l i) l.length (fun _ i => handF (l.take i) (l.drop i)) (fun _ _ => True) ?_ ?_ () 0 (by omega) trivial) (by simp [isHand])
  · rintro s _
    refine ev_unfold (fun k => rfl) ?_
    simp only [spec_IsHand.l0]
    refine ev_neg (by omega) (ev_ret ?_)
    rw [drop_end]; rfl
  · rintro s i hi _ ih
    have ht : (l.take i).length ≤ 1048576000 := by simp; omega
    refine ev_unfold (fun k => rfl) ?_
    simp only [spec_IsHand.l0]
    rw [w64next i (by omega), rd_at l i hi, drop_at l i hi, Int.toNat_natCast]
    unfold handF
    refine ev_pos (by omega) (ev_pos (by omega) (ev_eq (spec_IsCard_eq _) (ev_ite (fun h => ?_) (fun h => ev_ret ?_))))
    · refine ev_pos (by omega) (Ev.bind (spec_HasCard_ev _ _ ht) (ev_ite (fun h2 => ev_ret ?_) (fun h2 => ev_done (ih () trivial) ?_)))
      · rw [h2]; simp
      · rw [Bool.not_eq_true] at h2
        rw [h, h2, take_at l i hi]; simp
    · rw [Bool.not_eq_true] at h
      rw [h]; simp

theorem spec_l10Ok_ev (l : List Int) (hl : l.length ≤ 1048576000) : Ev (fun k => spec_l10Ok.f k l) (okM l) := by
  simp only [spec_l10Ok.f]
  refine Ev.bind (spec_IsHand_ev l hl) ?_
  unfold okM
  refine ev_ite (fun h => ?_) (fun h => ?_)
  · rw [h]
    exact ev_ret (by rw [Bool.true_and]; exact decide_eq_decide.2 (by omega))
  · rw [Bool.eq_false_iff.2 h]
    exact Ev.now _

theorem spec_l10Before_ev (a b : List Int) (ha : a.length ≤ 1048576000) : Ev (fun k => spec_l10Before.f k a b) (before a b) := by
  have key : ∀ (d i : Nat), i + d = a.length → Ev (fun k => spec_l10Before.l0 k a b (i : Int)) (before (a.drop i) (b.drop i)) := by
    intro d
    induction d with
    | zero =>
      intro i hd
      refine ev_unfold (fun k => rfl) ?_
      simp only [spec_l10Before.l0]
      refine ev_neg (by omega) (ev_unfold (fun k => rfl) ?_)
      simp only [spec_l10Before.j1]
      refine ev_neg (by simp) (ev_ret ?_)
      have e : a.drop i = [] := List.drop_of_length_le (by omega)
      rw [before_end (.inl e), List.length_drop, List.length_drop]
      exact decide_eq_decide.2 (by omega)
    | succ d ih =>
      intro i hd
      refine ev_unfold (fun k => rfl) ?_
      simp only [spec_l10Before.l0]
      refine ev_pos (by omega) (ev_unfold (fun k => rfl) ?_)
      simp only [spec_l10Before.j1]
      refine ev_ite (fun h => ?_) (fun h => ?_)
      · have hb : i < b.length := by have := of_decide_eq_true h; omega
        rw [w64next i (by omega), rd_at a i (by omega), rd_at b i hb, List.drop_eq_getElem_cons (by omega : i < a.length), List.drop_eq_getElem_cons hb]
        refine ev_pos (by omega) (ev_pos (by omega) (ev_pos (by omega) ?_))
        unfold before
        refine ev_ite (fun h2 => ?_) (fun h2 => ?_)
        · rw [if_pos h2]; exact ih (i + 1) (by omega)
        · rw [if_neg h2]; exact Ev.now _
      · have hb : b.length ≤ i := by
          rcases Nat.lt_or_ge i b.length with g | g
          · exact absurd (decide_eq_true (by omega)) h
          · exact g
        have e : b.drop i = [] := List.drop_of_length_le hb
        refine ev_ret ?_
        rw [before_end (.inr e), List.length_drop, List.length_drop]
        exact decide_eq_decide.2 (by omega)
  simp only [spec_l10Before.f]
  exact key a.length 0 (by omega)

theorem spec_l10Put_ev (s : List (List Int)) (x : List Int) (hs : s.length ≤ 1048576) (hx : x.length ≤ 1048576) : Ev (fun k => spec_l10Put.f k s x) (putR s x) := by
  have fin : ∀ q : Nat, q ≤ s.length → Ev (fun k => ((some (([] : List (List Int)) : List (List Int))).bind fun y140 => (if 0 ≤ (q : Int) then (if (q : Int) ≤ (s.length : Int) then ((some (s.take (q : Int).toNat : List (List Int))).bind fun y143 => (if y140.length + y143.length < 5864062014805 then ((some (y140 ++ y143 : List (List Int))).bind fun y148 => ((some (([x] : List (List Int)) : List (List Int))).bind fun y151 => (if y148.length + y151.length < 5864062014805 then ((some (y148 ++ y151 : List (List Int))).bind fun y154 => ((some (s.drop (q : Int).toNat : List (List Int))).bind fun y157 => (if y154.length + y157.length < 5864062014805 then (some (y154 ++ y157)) else (none)))) else (none)))) else (none))) else (none)) else (none)))) (insAt s q x) := by
    intro q hq
    simp only [Option.bind_some, Int.toNat_natCast, List.nil_append, List.length_nil]
    have e1 : (s.take q).length = q := by rw [List.length_take]; omega
    have e2 : (s.drop q).length = s.length - q := List.length_drop
    refine ev_pos (by omega) (ev_pos (by omega) (ev_pos (by omega) (ev_pos ?_ (ev_pos ?_ (ev_ret rfl)))))
    · rw [e1, List.length_singleton]; omega
    · rw [List.length_append, e1, e2, List.length_singleton]; omega
  have key : ∀ q : Nat, q ≤ s.length → Ev (fun k => spec_l10Put.l0 k s x (q : Int)) (insAt s (backR s x q) x) := by
    intro q
    induction q with
    | zero =>
      intro hq
      refine ev_unfold (fun k => rfl) ?_
      simp only [spec_l10Put.l0]
      exact ev_neg (by omega) (fin 0 hq)
    | succ q ih =>
      intro hq
      refine ev_unfold (fun k => rfl) ?_
      simp only [spec_l10Put.l0]
      have e1 : wrap64 (((q + 1 : Nat) : Int) - 1) = (q : Int) := by rw [w64 _ (by omega)]; omega
      rw [e1, rdss_at s q (by omega)]
      refine ev_pos (by omega) (ev_pos (by omega) (ev_pos (by omega) (Ev.bind (spec_l10Before_ev x s[q] (by omega)) ?_)))
      unfold backR
      rw [getD_at s q [] (by omega)]
      refine ev_ite (fun h => ?_) (fun h => ?_)
      · rw [if_pos h]; exact ih (by omega)
      · rw [if_neg h]; exact fin (q + 1) hq
  simp only [spec_l10Put.f]
  exact key s.length (Nat.le_refl _)

theorem spec_Without_ev (l : List Int) (c : Int) (hl : l.length ≤ 1048576000) : Ev (fun k => spec_Without.f k l c) (l.filter (fun y => decide (y ≠ c))) := by
  simp only [spec_Without.f]
  refine ev_done (ev_loop (fun k (s : List Int) i => spec_Without.l0 k l c s i) l (fun s r => s ++ r.filter (fun y => decide (y ≠ c))) (fun s i => s.length ≤ i) ?_ ?_ [] 0 (by omega) (Nat.le_refl _)) (by simp)
  · rintro s _
    refine ev_unfold (fun k => rfl) ?_
    simp only [spec_Without.l0]
    exact ev_neg (by omega) (ev_ret (by simp))
  · rintro s i hi hs ih
    refine ev_unfold (fun k => rfl) ?_
    simp only [spec_Without.l0]
    rw [w64next i (by omega), rd_at l i hi]
    refine ev_pos (by omega) (ev_pos (by omega) (ev_ite (fun h => ?_) (fun h => ev_pos (by omega) ?_)))
    · refine ev_done (ih s (by omega)) ?_
      rw [List.filter_cons, if_neg (by simpa using h)]
    · refine ev_done (ih (s ++ [l[i]]) (by simp; omega)) ?_
      rw [List.filter_cons, if_pos (decide_eq_true h), List.append_assoc]; rfl

theorem spec_SuitOf_eq (c : Int) : spec_SuitOf.f c = some (suitOf c) := by
  unfold spec_SuitOf.f suitOf
  rw [spec_IsCard_eq]
  simp only [Option.bind_some]
  by_cases h : isCard c = true
  · have h2 := (isCard_iff c).1 h
    rw [if_pos h, if_pos h, Int.tdiv_eq_ediv_of_nonneg h2.1, w64 _ (by omega)]
  · rw [if_neg h, if_neg h]

theorem spec_MeldsIn_same (l : List Int) (hl : l.length ≤ 1048576000) (o : List (List Int)) (r : Nat) (hr : r < 13) {R : List (List Int)}
    (h : Ev (fun k => (if ((sameOf l r).length : Int) ≥ 3 then ((spec_l10Put.f k o (sameOf l r)).bind fun t191 => (spec_MeldsIn.j2 k l t191 (r : Int) (sameOf l r))) else (spec_MeldsIn.j2 k l o (r : Int) (sameOf l r)))) R) : Ev (fun k => spec_MeldsIn.l1 k l o (r : Int) [] 0) R := by
  have key : ∀ (d i : Nat) (s : List Int), i + d = 4 → s.length ≤ i → s ++ ((List.range' i d).map fun (q : Nat) => (q : Int) * 13 + (r : Int)).filter (hasCard l) = sameOf l r → Ev (fun k => spec_MeldsIn.l1 k l o (r : Int) s (i : Int)) R := by
    intro d
    induction d with
    | zero =>
      intro i s hd hs e
      refine ev_unfold (fun k => rfl) ?_
      simp only [spec_MeldsIn.l1]
      rw [List.range'_zero, List.map_nil, List.filter_nil, List.append_nil] at e
      rw [e]
      exact ev_neg (by omega) h
    | succ d ih =>
      intro i s hd hs e
      refine ev_unfold (fun k => rfl) ?_
      simp only [spec_MeldsIn.l1]
      have e1 : wrap64 (wrap64 ((i : Int) * 13) + (r : Int)) = (i : Int) * 13 + (r : Int) := by rw [w64 ((i : Int) * 13) (by omega), w64 _ (by omega)]
      rw [e1, w64next i (by omega)]
      rw [List.range'_succ, List.map_cons, List.filter_cons] at e
      refine ev_pos (by omega) (Ev.bind (spec_HasCard_ev l _ hl) (ev_ite (fun g => ev_pos (by omega) ?_) (fun g => ?_)))
      · rw [if_pos g] at e
        exact ih (i + 1) _ (by omega) (by simp; omega) (by rw [List.append_assoc]; exact e)
      · rw [if_neg g] at e
        exact ih (i + 1) _ (by omega) (by omega) e
  exact key 4 0 [] (by omega) (Nat.le_refl _) (by rw [List.nil_append, ← List.range_eq_range']; rfl)
theorem spec_MeldsIn_set (l : List Int) (hl : l.length ≤ 1048576000) (o : List (List Int)) (r : Nat) (hr : r < 13) (ho : o.length ≤ 5 * r) (F : List (List Int) → List (List Int))
    (h : ∀ o', o'.length ≤ 5 * (r + 1) → Ev (fun k => spec_MeldsIn.l0 k l o' ((r + 1 : Nat) : Int)) (F o')) : Ev (fun k => spec_MeldsIn.l1 k l o (r : Int) [] 0) (F (putAll o (setPart l r))) := by
  have h4 := sameOf_le l r
  have two : ∀ o', o'.length ≤ 5 * r + 1 → Ev (fun k => spec_MeldsIn.j2 k l o' (r : Int) (sameOf l r)) (F (putAll o' (if (sameOf l r).length = 4 then (sameOf l r).map (fun c => (sameOf l r).filter (fun y => decide (y ≠ c))) else []))) := by
    intro o' ho'
    refine ev_unfold (fun k => rfl) ?_
    simp only [spec_MeldsIn.j2]
    by_cases e4 : (sameOf l r).length = 4
    · rw [if_pos e4]
      have key : ∀ (d i : Nat) (o2 : List (List Int)), i + d = 4 → o2.length ≤ 5 * r + 1 + i → Ev (fun k => spec_MeldsIn.l2 k l o2 (r : Int) (sameOf l r) (i : Int)) (F (putAll o2 (((sameOf l r).drop i).map (fun c => (sameOf l r).filter (fun y => decide (y ≠ c)))))) := by
        intro d
        induction d with
        | zero =>
          intro i o2 hd ho2
          refine ev_unfold (fun k => rfl) ?_
          simp only [spec_MeldsIn.l2]
          refine ev_neg (by omega) (ev_unfold (fun k => rfl) ?_)
          simp only [spec_MeldsIn.j4]
          rw [w64next r (by omega), List.drop_of_length_le (by omega)]
          exact ev_neg (by simp) (h o2 (by omega))
        | succ d ih =>
          intro i o2 hd ho2
          refine ev_unfold (fun k => rfl) ?_
          simp only [spec_MeldsIn.l2]
          refine ev_pos (by omega) (ev_unfold (fun k => rfl) ?_)
          simp only [spec_MeldsIn.j4]
          rw [w64next i (by omega), rd_at _ i (by omega)]
          have hf := List.length_filter_le (fun y => decide (y ≠ (sameOf l r)[i])) (sameOf l r)
          refine ev_pos (by rw [e4]; rfl) (ev_pos (by omega) (ev_pos (by omega) (Ev.bind (spec_Without_ev (sameOf l r) _ (by omega)) (Ev.bind (spec_l10Put_ev o2 _ (by omega) (by omega)) ?_))))
          rw [List.drop_eq_getElem_cons (by omega : i < (sameOf l r).length), List.map_cons]
          exact ih (i + 1) _ (by omega) (by rw [putR_length]; omega)
      exact key 4 0 o' (by omega) (by omega)
    · rw [if_neg e4]
      refine ev_unfold (fun k => rfl) ?_
      simp only [spec_MeldsIn.l2]
      have fin : Ev (fun k => spec_MeldsIn.j4 k l o' (r : Int) (sameOf l r) 0 false) (F (putAll o' [])) := by
        refine ev_unfold (fun k => rfl) ?_
        simp only [spec_MeldsIn.j4]
        rw [w64next r (by omega)]
        exact ev_neg (by simp) (h o' (by omega))
      refine ev_ite (fun _ => ?_) (fun _ => fin)
      have : (((sameOf l r).length : Int) == 4) = false := by rw [beq_eq_false_iff_ne]; omega
      rw [this]; exact fin
  refine spec_MeldsIn_same l hl o r hr ?_
  unfold setPart
  refine ev_ite (fun g => ?_) (fun g => ?_)
  · rw [if_pos (by omega)]
    refine Ev.bind (spec_l10Put_ev o _ (by omega) (by omega)) ?_
    exact two (putR o (sameOf l r)) (by rw [putR_length]; omega)
  · rw [if_neg (by omega)]
    exact two o (by omega)
theorem spec_MeldsIn_run (l : List Int) (hl : l.length ≤ 1048576000) (hc : ∀ y ∈ l, isCard y = true) (c : Nat) (h52 : c < 52) (F : List (List Int) → List (List Int))
    (h : ∀ o', o'.length ≤ 65 + 53 * (c + 1) → Ev (fun k => spec_MeldsIn.l3 k l o' ((c + 1 : Nat) : Int)) (F o')) : ∀ (n : Nat) (run : List Int) (o : List (List Int)), run.length + n = 53 → o.length ≤ 65 + 53 * c + run.length →
    Ev (fun k => spec_MeldsIn.l4 k l o (c : Int) run ((c : Int) + (run.length : Int))) (F (putAll o (runP l (c : Int) n run ((c : Int) + (run.length : Int))))) := by
  have stop : ∀ (run : List Int) (x : Int) (o : List (List Int)), o.length ≤ 65 + 53 * (c + 1) → Ev (fun k => spec_MeldsIn.j7 k l o (c : Int) run x false) (F (putAll o [])) := by
    intro run x o ho
    refine ev_unfold (fun k => rfl) ?_
    simp only [spec_MeldsIn.j7]
    rw [w64next c (by omega)]
    exact ev_neg (by simp) (h o ho)
  intro n
  induction n with
  | zero =>
    intro run o hn ho
    refine ev_unfold (fun k => rfl) ?_
    simp only [spec_MeldsIn.l4]
    refine Ev.bind (spec_HasCard_ev l _ hl) (ev_neg ?_ ?_)
    · intro g
      have := (isCard_iff _).1 (hc _ (of_decide_eq_true g))
      omega
    · exact stop run _ o (by omega)
  | succ n ih =>
    intro run o hn ho
    refine ev_unfold (fun k => rfl) ?_
    simp only [spec_MeldsIn.l4, spec_SuitOf_eq, Option.bind_some]
    refine Ev.bind (spec_HasCard_ev l _ hl) ?_
    unfold runP
    refine ev_ite (fun g => ?_) (fun g => ?_)
    · by_cases g2 : suitOf ((c : Int) + (run.length : Int)) = suitOf (c : Int)
      · rw [if_pos ⟨g, g2⟩, beq_iff_eq.2 g2]
        refine ev_unfold (fun k => rfl) ?_
        simp only [spec_MeldsIn.j7, Option.bind_some, List.nil_append, List.length_nil, List.length_append, List.length_singleton]
        have e1 : wrap64 ((c : Int) + (run.length : Int) + 1) = (c : Int) + ((run ++ [(c : Int) + (run.length : Int)]).length : Int) := by rw [w64 _ (by omega)]; simp; omega
        have e2 : (c : Int) + (run.length : Int) + 1 = (c : Int) + ((run ++ [(c : Int) + (run.length : Int)]).length : Int) := by simp; omega
        have e3 : (run ++ [(c : Int) + (run.length : Int)]).length = run.length + 1 := by simp
        rw [e1, e2]
        refine ev_pos (by first | trivial | rfl) (ev_pos (by omega) (ev_ite (fun g3 => ?_) (fun g3 => ?_)))
        · rw [if_pos (by omega)]
          refine ev_pos (by omega) (Ev.bind (spec_l10Put_ev o _ (by omega) (by omega)) ?_)
          exact ih _ _ (by omega) (by rw [putR_length]; omega)
        · rw [if_neg (by omega)]
          exact ih _ _ (by omega) (by omega)
      · rw [if_neg (fun z => g2 z.2), beq_eq_false_iff_ne.2 g2]
        exact stop run _ o (by omega)
    · rw [if_neg (fun z => g z.1)]
      exact stop run _ o (by omega)
theorem putAll_len (s l : List (List Int)) : (putAll s l).length = s.length + l.length := by rw [(putAll_perm l s).length_eq, List.length_append]
theorem putAll_app (s a b : List (List Int)) : putAll s (a ++ b) = putAll (putAll s a) b := List.foldl_append
theorem spec_MeldsIn_ev (l : List Int) (hl : l.length ≤ 1048576000) : Ev (fun k => spec_MeldsIn.f k l) (meldsIn l) := by
  simp only [spec_MeldsIn.f, Option.bind_some]
  refine Ev.bind (spec_l10Ok_ev l hl) ?_
  unfold meldsIn
  refine ev_ite (fun g => ?_) (fun g => ?_)
  · rw [if_pos g]
    have hand : isHand l = true := by unfold okM at g; rw [Bool.and_eq_true] at g; exact g.1
    have hc := ((isHand_iff l).1 hand).1
    rw [← melds_same hand]
    have runs : ∀ (d c : Nat) (o : List (List Int)), c + d = 52 → o.length ≤ 65 + 53 * c → Ev (fun k => spec_MeldsIn.l3 k l o (c : Int)) (putAll o ((List.range' c d).flatMap (fun (c : Nat) => runP l (c : Int) 53 [] (c : Int)))) := by
      intro d
      induction d with
      | zero =>
        intro c o hd ho
        refine ev_unfold (fun k => rfl) ?_
        simp only [spec_MeldsIn.l3]
        exact ev_neg (by omega) (Ev.now _)
      | succ d ih =>
        intro c o hd ho
        refine ev_unfold (fun k => rfl) ?_
        simp only [spec_MeldsIn.l3]
        rw [List.range'_succ, List.flatMap_cons, putAll_app]
        have := spec_MeldsIn_run l hl hc c (by omega) (fun o' => putAll o' ((List.range' (c + 1) d).flatMap (fun (c : Nat) => runP l (c : Int) 53 [] (c : Int)))) (fun o' ho' => ih (c + 1) o' (by omega) ho') 53 [] o rfl (by simpa using ho)
        rw [List.length_nil, show (c : Int) + ((0 : Nat) : Int) = (c : Int) by omega] at this
        exact ev_pos (by omega) this
    have sets : ∀ (d r : Nat) (o : List (List Int)), r + d = 13 → o.length ≤ 5 * r → Ev (fun k => spec_MeldsIn.l0 k l o (r : Int)) (putAll o ((List.range' r d).flatMap (setPart l) ++ (List.range 52).flatMap (fun (c : Nat) => runP l (c : Int) 53 [] (c : Int)))) := by
      intro d
      induction d with
      | zero =>
        intro r o hd ho
        refine ev_unfold (fun k => rfl) ?_
        simp only [spec_MeldsIn.l0]
        rw [List.range'_zero, List.flatMap_nil, List.nil_append, List.range_eq_range']
        exact ev_neg (by omega) (runs 52 0 o (by omega) (by omega))
      | succ d ih =>
        intro r o hd ho
        refine ev_unfold (fun k => rfl) ?_
        simp only [spec_MeldsIn.l0]
        rw [List.range'_succ, List.flatMap_cons, List.append_assoc, putAll_app]
        exact ev_pos (by omega) (spec_MeldsIn_set l hl o r (by omega) ho (fun o' => putAll o' ((List.range' (r + 1) d).flatMap (setPart l) ++ (List.range 52).flatMap (fun (c : Nat) => runP l (c : Int) 53 [] (c : Int)))) (fun o' ho' => ih (r + 1) o' (by omega) ho'))
    have := sets 13 0 [] (by omega) (by simp)
    rw [← List.range_eq_range'] at this
    exact this
  · rw [if_neg g]
    exact Ev.now _

theorem laws_toIntS_ev (l : List Int) (hl : l.length ≤ 1048576000) : Ev (fun k => laws_toIntS.f k l) l := by
  simp only [laws_toIntS.f]
  refine ev_pos (by omega) (ev_pos (by omega) ?_)
  refine ev_loop (fun k (s : List Int) i => laws_toIntS.l0 k l s i) l (fun _ _ => l) (fun s i => s.length = l.length ∧ s.take i = l.take i) ?_ ?_ _ 0 (by omega) ⟨by simp, by simp⟩
  · rintro s ⟨h1, h2⟩
    refine ev_unfold (fun k => rfl) ?_
    simp only [laws_toIntS.l0]
    refine ev_neg (by omega) (ev_ret ?_)
    rw [List.take_of_length_le (by omega), List.take_of_length_le (by omega)] at h2
    exact h2
  · rintro s i hi ⟨h1, h2⟩ ih
    refine ev_unfold (fun k => rfl) ?_
    simp only [laws_toIntS.l0]
    refine ev_pos (by omega) (ev_pos (by omega) (ev_pos (by omega) ?_))
    rw [w64next i (by omega), rd_at l i hi, Int.toNat_natCast]
    refine ih _ ⟨by simpa using h1, ?_⟩
    apply List.ext_getElem
    · simp; omega
    · intro j hj1 hj2
      simp at hj1 hj2
      simp only [List.getElem_take, List.getElem_set]
      by_cases hij : i = j
      · subst hij; simp
      · rw [if_neg hij]
        have h3 : (s.take i)[j]'(by simp; omega) = (l.take i)[j]'(by simp; omega) := by simp only [h2]
        simpa using h3

theorem impl_InRange_eq (n a b : Int) : impl_InRange.f n a b = some (inR n a b) := by
  unfold impl_InRange.f inR
  by_cases h : a ≤ n
  · rw [if_pos (by omega)]; simp [h]
  · rw [if_neg (by omega)]; simp [h]

theorem impl_IsCard_eq (c : Int) : impl_IsCard.f c = some (isCard c) := by
  unfold impl_IsCard.f isCard
  rw [impl_InRange_eq]; rfl

theorem impl_IsHand_ev (l : List Int) (hl : l.length ≤ 1048576000) : Ev (fun k => impl_IsHand.f k l) (isHand l) := by
  simp only [impl_IsHand.f]
  refine ev_done (ev_loopN (fun k (s : List Bool) i => impl_IsHand.l0 k l s i) l.length (fun _ i => handF (l.take i) (l.drop i)) (fun s i => s.length = 52 ∧ ∀ c : Nat, c < 52 → s.getD c false = decide ((c : Int) ∈ l.take i)) ?_ ?_ _ 0 (by omega) ⟨by simp, fun c hc => by rw [List.getD_eq_getElem?_getD, List.getElem?_replicate, if_pos hc]; simp⟩) (by simp [isHand])
  · rintro s _
    refine ev_unfold (fun k => rfl) ?_
    simp only [impl_IsHand.l0]
    refine ev_neg (by omega) (ev_ret ?_)
    rw [drop_end]; rfl
  · rintro s i hi ⟨h52, hs⟩ ih
    refine ev_unfold (fun k => rfl) ?_
    simp only [impl_IsHand.l0]
    rw [w64next i (by omega), rd_at l i hi, drop_at l i hi]
    unfold handF
    refine ev_pos (by omega) (ev_pos (by omega) (ev_eq (impl_IsCard_eq _) (ev_ite (fun h => ?_) (fun h => ev_ret ?_))))
    · have hc := (isCard_iff _).1 h
      have he := hs l[i].toNat (by omega)
      rw [show ((l[i].toNat : Nat) : Int) = l[i] by omega] at he
      refine ev_pos (by omega) (ev_pos (by omega) (ev_ite (fun h2 => ev_ret ?_) (fun h2 => ev_done (ih _ ⟨by simpa using h52, fun c hc2 => ?_⟩) ?_)))
      · rw [h2] at he
        unfold hasCard
        rw [← he]; simp
      · rw [take_at l i hi, List.getD_eq_getElem?_getD, List.getElem?_set]
        have h3 := hs c hc2
        rw [List.getD_eq_getElem?_getD] at h3
        by_cases hci : l[i].toNat = c
        · rw [if_pos hci, if_pos (by omega)]
          have : (c : Int) = l[i] := by omega
          exact (decide_eq_true (List.mem_append.2 (.inr (by rw [this]; exact List.mem_singleton.2 rfl)))).symm
        · rw [if_neg hci, h3]
          have : ¬ (c : Int) = l[i] := by omega
          exact decide_eq_decide.2 ⟨fun h => List.mem_append.2 (.inl h), fun h => (List.mem_append.1 h).resolve_right (fun h => this (List.mem_singleton.1 h))⟩
      · rw [Bool.not_eq_true] at h2
        rw [h2] at he
        unfold hasCard
        rw [h, ← he, take_at l i hi]; simp
    · rw [Bool.not_eq_true] at h
      rw [h]; simp

theorem impl_RankOf_eq (c : Int) : impl_RankOf.f c = some (rankOf c) := by
  unfold impl_RankOf.f rankOf
  rw [impl_IsCard_eq]
  simp only [Option.bind_some]
  by_cases h : isCard c = true
  · rw [if_pos h, if_pos h, Int.tmod_eq_emod_of_nonneg ((isCard_iff c).1 h).1]
  · rw [if_neg h, if_neg h]

theorem impl_IsSetMeld_ev (l : List Int) (hl : l.length ≤ 1048576000) : Ev (fun k => impl_IsSetMeld.f k l) (setMeld l) := by
  have l0 : Ev (fun k => impl_IsSetMeld.l0 k l l (l.length : Int) 0) (l.all fun c => decide (rankOf c = rankOf (rd l 0))) := by
    refine ev_done (ev_loop (fun k (_ : Unit) i => impl_IsSetMeld.l0 k l l (l.length : Int) i) l (fun _ r => (r.all fun c => decide (rankOf c = rankOf (rd l 0)))) (fun _ _ => True) ?_ ?_ () 0 (by omega) trivial) rfl
    · rintro s _
      refine ev_unfold (fun k => rfl) ?_
      simp only [impl_IsSetMeld.l0]
      exact ev_neg (by omega) (ev_ret rfl)
    · rintro s i hi _ ih
      refine ev_unfold (fun k => rfl) ?_
      simp only [impl_IsSetMeld.l0, impl_RankOf_eq, Option.bind_some]
      rw [w64next i (by omega), rd_at l i hi, List.all_cons]
      refine ev_pos (by omega) (ev_pos (by omega) (ev_pos (by omega) (ev_pos (by omega) (ev_ite (fun h => ev_done (ih () trivial) ?_) (fun h => ev_ret ?_)))))
      · rw [show decide (rankOf l[i] = rankOf (rd l 0)) = true from decide_eq_true h, Bool.true_and]
      · rw [show decide (rankOf l[i] = rankOf (rd l 0)) = false from decide_eq_false h]; simp
  have j0 : ∀ b, Ev (fun k => impl_IsSetMeld.j0 k l b) (!b && l.all fun c => decide (rankOf c = rankOf (rd l 0))) := by
    intro b
    refine ev_unfold (fun k => rfl) ?_
    simp only [impl_IsSetMeld.j0]
    refine ev_ite (fun h => ?_) (fun h => ?_)
    · rw [h]; exact Ev.now _
    · rw [Bool.not_eq_true] at h; rw [h]; exact ev_done l0 (by simp)
  simp only [impl_IsSetMeld.f, impl_InRange_eq, Option.bind_some]
  unfold setMeld
  refine Ev.bind (impl_IsHand_ev l hl) (ev_ite (fun h => ev_done (j0 _) ?_) (fun h => ev_done (j0 _) ?_))
  · rw [h]; simp
  · rw [Bool.not_eq_true] at h; rw [h]; simp

theorem impl_Sorted_ev (l : List Int) (hl : l.length ≤ 1048576000) : Ev (fun k => impl_Sorted.f k l) (sorted l) := by
  simp only [impl_Sorted.f]
  refine ev_done (ev_loop (fun k (s : List Int) i => impl_Sorted.l0 k s l (l.length : Int) i) l (fun s r => sortF s r) (fun s i => s.length = i) ?_ ?_ [] 0 (by omega) rfl) rfl
  · rintro s _
    refine ev_unfold (fun k => rfl) ?_
    simp only [impl_Sorted.l0]
    exact ev_neg (by omega) (ev_ret rfl)
  · rintro s i hi hs ih
    have l1 : ∀ q : Nat, q ≤ s.length → Ev (fun k => impl_Sorted.l1 k s l[i] (q : Int) l (l.length : Int) (i : Int)) (sortF (insAt s (backF s l[i] q) l[i]) (l.drop (i + 1))) := by
      have fin : ∀ q : Nat, q ≤ s.length → Ev (fun k => if s.length < 17592186044416 then ((some (s ++ [0] : List Int)).bind fun y => (if 0 ≤ (q : Int) then (if (q : Int) < (y.length : Int) then (impl_Sorted.l0 k ((Arr.shifted y (q : Int).toNat).set (q : Int).toNat l[i]) l (l.length : Int) (wrap64 ((i : Int) + 1))) else none) else none)) else none) (sortF (insAt s q l[i]) (l.drop (i + 1))) := by
        intro q hq
        refine ev_pos (by omega) ?_
        simp only [Option.bind_some]
        rw [w64next i (by omega), Int.toNat_natCast, shift_set s 0 l[i] q hq]
        refine ev_pos (by omega) (ev_pos (by simp; omega) (ih _ ?_))
        rw [insAt_length _ _ _ hq, hs]
      intro q
      induction q with
      | zero =>
        intro hq
        refine ev_unfold (fun k => rfl) ?_
        simp only [impl_Sorted.l1]
        refine ev_neg (by omega) ?_
        exact fin 0 (by omega)
      | succ q ihq =>
        intro hq
        refine ev_unfold (fun k => rfl) ?_
        simp only [impl_Sorted.l1]
        have e1 : wrap64 (((q + 1 : Nat) : Int) - 1) = (q : Int) := by rw [w64 _ (by omega)]; omega
        rw [e1]
        refine ev_pos (by omega) (ev_pos (by omega) (ev_pos (by omega) ?_))
        unfold backF
        refine ev_ite (fun h => ?_) (fun h => ?_)
        · rw [if_pos h]; exact ihq (by omega)
        · rw [if_neg h]; exact fin (q + 1) hq
    refine ev_unfold (fun k => rfl) ?_
    simp only [impl_Sorted.l0]
    rw [rd_at l i hi]
    exact ev_pos (by omega) (ev_pos (by omega) (ev_pos (by omega) (l1 s.length (Nat.le_refl _))))

theorem impl_SuitOf_eq (c : Int) : impl_SuitOf.f c = some (suitOf c) := by
  unfold impl_SuitOf.f suitOf
  rw [impl_IsCard_eq]
  simp only [Option.bind_some]
  by_cases h : isCard c = true
  · have h2 := (isCard_iff c).1 h
    rw [if_pos h, if_pos h, Int.tdiv_eq_ediv_of_nonneg h2.1, w64 _ (by omega)]
  · rw [if_neg h, if_neg h]

theorem impl_IsRunMeld_ev (l : List Int) (hl : l.length ≤ 1048576000) : Ev (fun k => impl_IsRunMeld.f k l) (runMeld l) := by
  have hsl := sorted_length l
  have l0 : Ev (fun k => impl_IsRunMeld.l0 k (sorted l) (sorted l) ((sorted l).length : Int) 0) (allFrom (sorted l).length 0 (chainB (sorted l))) := by
    refine ev_done (ev_loopN (fun k (_ : Unit) i => impl_IsRunMeld.l0 k (sorted l) (sorted l) ((sorted l).length : Int) i) (sorted l).length (fun _ i => allFrom (sorted l).length i (chainB (sorted l))) (fun _ i => True) ?_ ?_ () 0 (by omega) trivial) rfl
    · rintro s _
      refine ev_unfold (fun k => rfl) ?_
      simp only [impl_IsRunMeld.l0]
      rw [allFrom_end]
      exact ev_neg (by omega) (Ev.now _)
    · rintro s i hi _ ih
      refine ev_unfold (fun k => rfl) ?_
      simp only [impl_IsRunMeld.l0, impl_SuitOf_eq, Option.bind_some]
      rw [w64next i (by omega), allFrom_step _ hi]
      unfold chainB
      refine ev_pos (by omega) (ev_pos (by omega) (ev_pos (by omega) (ev_pos (by omega) (ev_ite (fun h => ?_) (fun h => ev_ret ?_)))))
      · refine ev_ite (fun h2 => ev_done (ih () trivial) ?_) (fun h2 => ev_ret ?_)
        · rw [show decide (suitOf (rd (sorted l) (i : Int)) = suitOf (rd (sorted l) 0)) = true from decide_eq_true h, show decide (rd (sorted l) (i : Int) = wrap64 (rd (sorted l) 0 + (i : Int))) = true from decide_eq_true h2]
          simp only [Bool.true_and]
          rfl
        · rw [show decide (rd (sorted l) (i : Int) = wrap64 (rd (sorted l) 0 + (i : Int))) = false from decide_eq_false h2]; simp
      · rw [show decide (suitOf (rd (sorted l) (i : Int)) = suitOf (rd (sorted l) 0)) = false from decide_eq_false h]; simp
  have j0 : ∀ b, Ev (fun k => impl_IsRunMeld.j0 k l b) (!b && allFrom (sorted l).length 0 (chainB (sorted l))) := by
    intro b
    refine ev_unfold (fun k => rfl) ?_
    simp only [impl_IsRunMeld.j0]
    refine ev_ite (fun h => ?_) (fun h => ?_)
    · rw [h]; exact Ev.now _
    · rw [Bool.not_eq_true] at h; rw [h]
      exact Ev.bind (impl_Sorted_ev l hl) (ev_done l0 (by simp))
  simp only [impl_IsRunMeld.f]
  unfold runMeld
  refine Ev.bind (impl_IsHand_ev l hl) (ev_ite (fun h => ev_done (j0 _) ?_) (fun h => ev_done (j0 _) ?_))
  · rw [h, Bool.true_and]
    congr 1
    by_cases h3 : 3 ≤ l.length
    · rw [show decide ((l.length : Int) < 3) = false from decide_eq_false (by omega), show decide (3 ≤ l.length) = true from decide_eq_true h3]; rfl
    · rw [show decide ((l.length : Int) < 3) = true from decide_eq_true (by omega), show decide (3 ≤ l.length) = false from decide_eq_false h3]; rfl
  · rw [Bool.not_eq_true] at h; rw [h]; rfl

theorem impl_isBefore_ev (a b : List Int) (ha : a.length ≤ 1048576000) : Ev (fun k => impl_isBefore.f k a b) (before a b) := by
  have key : ∀ (d i : Nat), i + d = a.length → i ≤ b.length → Ev (fun k => impl_isBefore.l0 k a b (a.length : Int) (i : Int)) (before (a.drop i) (b.drop i)) := by
    intro d
    induction d with
    | zero =>
      intro i hd hb
      refine ev_unfold (fun k => rfl) ?_
      simp only [impl_isBefore.l0]
      refine ev_neg (by omega) (ev_ret ?_)
      have e : a.drop i = [] := List.drop_of_length_le (by omega)
      rw [before_end (.inl e), List.length_drop, List.length_drop]
      exact decide_eq_decide.2 (by omega)
    | succ d ih =>
      intro i hd hb
      refine ev_unfold (fun k => rfl) ?_
      simp only [impl_isBefore.l0]
      refine ev_pos (by omega) (ev_ite (fun h => ?_) (fun h => ?_))
      · have e : b.drop i = [] := List.drop_of_length_le (by omega)
        refine ev_ret ?_
        rw [before_end (.inr e), List.length_drop, List.length_drop]
        exact (decide_eq_false (by omega)).symm
      · have hb2 : i < b.length := by omega
        rw [w64next i (by omega), rd_at a i (by omega), rd_at b i hb2, List.drop_eq_getElem_cons (by omega : i < a.length), List.drop_eq_getElem_cons hb2]
        refine ev_pos (by omega) (ev_pos (by omega) (ev_pos (by omega) ?_))
        unfold before
        refine ev_ite (fun h2 => ?_) (fun h2 => ?_)
        · rw [if_pos h2]; exact ih (i + 1) (by omega) (by omega)
        · rw [if_neg h2]; exact Ev.now _
  simp only [impl_isBefore.f]
  exact key a.length 0 (by omega) (by omega)

theorem not_of {b : Bool} (h : (!b) = true) : ¬ b = true := by cases b <;> simp_all
theorem of_not {b : Bool} (h : ¬ (!b) = true) : b = true := by cases b <;> simp_all
theorem impl_MeldsIn_put (s l0 : List Int) (o : List (List Int)) (x : List Int) (N : Int) (m : Nat) (hm : m ≤ 4096) (ho : o.length ≤ 1048576) (hx : x.length ≤ 1048576) {R : List (List Int)}
    (h : Ev (fun k => impl_MeldsIn.l0 k s (putR o x) N ((m + 1 : Nat) : Int)) R) : Ev (fun k => impl_MeldsIn.l2 k s o x (o.length : Int) N (m : Int)) R := by
  have fin : ∀ q : Nat, q ≤ o.length → insAt o q x = putR o x → Ev (fun k => if o.length < 5864062014805 then ((some (o ++ [[]] : List (List Int))).bind fun y264 => (if 0 ≤ (q : Int) then (if (q : Int) < (y264.length : Int) then (impl_MeldsIn.l0 k s ((Arr.shifted y264 (q : Int).toNat).set (q : Int).toNat x) N (wrap64 ((m : Int) + 1))) else (none)) else (none))) else (none)) R := by
    intro q hq e
    refine ev_pos (by omega) ?_
    simp only [Option.bind_some]
    rw [w64next m (by omega), Int.toNat_natCast, shift_set o [] x q hq, e]
    exact ev_pos (by omega) (ev_pos (by simp; omega) h)
  have key : ∀ q : Nat, q ≤ o.length → insAt o (backR o x q) x = putR o x → Ev (fun k => impl_MeldsIn.l2 k s o x (q : Int) N (m : Int)) R := by
    intro q
    induction q with
    | zero =>
      intro hq e
      refine ev_unfold (fun k => rfl) ?_
      simp only [impl_MeldsIn.l2]
      exact ev_neg (by omega) (fin 0 (by omega) e)
    | succ q ih =>
      intro hq e
      refine ev_unfold (fun k => rfl) ?_
      simp only [impl_MeldsIn.l2]
      have e1 : wrap64 (((q + 1 : Nat) : Int) - 1) = (q : Int) := by rw [w64 _ (by omega)]; omega
      rw [e1, rdss_at o q (by omega)]
      refine ev_pos (by omega) (ev_pos (by omega) (ev_pos (by omega) (Ev.bind (impl_isBefore_ev x o[q] (by omega)) ?_)))
      unfold backR at e
      rw [getD_at o q [] (by omega)] at e
      refine ev_ite (fun h => ?_) (fun h => ?_)
      · rw [if_pos h] at e; exact ih (by omega) e
      · rw [if_neg h] at e; exact fin (q + 1) hq e
  exact key o.length (Nat.le_refl _) rfl
theorem impl_MeldsIn_in (s : List Int) (o : List (List Int)) (N : Int) (m : Nat) (hm : m ≤ 4096) (hs : s.length ≤ 12) (ho : o.length ≤ 1048576) {R : List (List Int)}
    (h : Ev (fun k => impl_MeldsIn.l0 k s (if (setMeld (selB s m) || runMeld (selB s m)) = true then putR o (selB s m) else o) N ((m + 1 : Nat) : Int)) R) :
    Ev (fun k => impl_MeldsIn.l1 k s o (m : Int) [] N (m : Int) s (s.length : Int) 0) R := by
  have key : ∀ (d i : Nat) (x : List Int), i + d = s.length → x.length ≤ i → x ++ pickF (m : Int) i (s.drop i) = selB s m → Ev (fun k => impl_MeldsIn.l1 k s o (m : Int) x N (m : Int) s (s.length : Int) (i : Int)) R := by
    intro d
    induction d with
    | zero =>
      intro i x hd hx e
      refine ev_unfold (fun k => rfl) ?_
      simp only [impl_MeldsIn.l1]
      rw [List.drop_of_length_le (by omega), show pickF (m : Int) i [] = [] from rfl, List.append_nil] at e
      rw [← e] at h
      have j3 : ∀ b : Bool, b = !(setMeld x || runMeld x) → Ev (fun k => impl_MeldsIn.j3 k s o x N (m : Int) b) R := by
        intro b hb
        refine ev_unfold (fun k => rfl) ?_
        simp only [impl_MeldsIn.j3]
        refine ev_ite (fun g => ?_) (fun g => ?_)
        · rw [if_neg (not_of (hb ▸ g))] at h
          rw [w64next m (by omega)]; exact h
        · rw [if_pos (of_not (hb ▸ g))] at h
          exact impl_MeldsIn_put s [] o x N m hm ho (by omega) h
      refine ev_neg (by omega) (Ev.bind (impl_IsSetMeld_ev x (by omega)) (ev_ite (fun g => ?_) (fun g => ?_)))
      · exact j3 _ (by rw [g]; rfl)
      · refine Ev.bind (impl_IsRunMeld_ev x (by omega)) (j3 _ ?_)
        rw [Bool.eq_false_iff.2 g]; rfl
    | succ d ih =>
      intro i x hd hx e
      refine ev_unfold (fun k => rfl) ?_
      simp only [impl_MeldsIn.l1]
      rw [w64next i (by omega), rd_at s i (by omega)]
      rw [List.drop_eq_getElem_cons (by omega : i < s.length)] at e
      unfold pickF at e
      refine ev_pos (by omega) (ev_pos (by omega) (ev_pos (by omega) (ev_ite (fun h1 => ev_pos (by omega) (ih (i + 1) _ (by omega) (by simp; omega) ?_)) (fun h1 => ih (i + 1) _ (by omega) (by omega) ?_))))
      · rw [if_pos (show bitOf (m : Int) i = true from decide_eq_true h1)] at e
        rw [List.append_assoc]; exact e
      · rw [if_neg (show ¬ bitOf (m : Int) i = true from fun z => h1 (of_decide_eq_true z))] at e
        exact e
  refine key s.length 0 [] (by omega) (Nat.le_refl _) ?_
  rw [List.nil_append, List.drop_zero, pickF_sel m (by omega) s 0 (by omega), Nat.pow_zero, Nat.div_one]
theorem impl_MeldsIn_ev (l : List Int) (hl : l.length ≤ 1048576000) : Ev (fun k => impl_MeldsIn.f k l) (meldsIn l) := by
  have loop : ∀ (s : List Int), s.length ≤ 12 → ∀ (d m : Nat) (o : List (List Int)), m + d = 2 ^ s.length → o.length ≤ m → Ev (fun k => impl_MeldsIn.l0 k s o ((2 ^ s.length : Nat) : Int) (m : Int)) (putAll o (((List.range' m d).map (selB s)).filter (fun x => setMeld x || runMeld x))) := by
    intro s hs d
    have h2 : 2 ^ s.length ≤ 4096 := Nat.pow_le_pow_right (by omega) hs
    induction d with
    | zero =>
      intro m o hd ho
      refine ev_unfold (fun k => rfl) ?_
      simp only [impl_MeldsIn.l0]
      exact ev_neg (by omega) (Ev.now _)
    | succ d ih =>
      intro m o hd ho
      refine ev_unfold (fun k => rfl) ?_
      simp only [impl_MeldsIn.l0]
      refine ev_pos (by omega) (impl_MeldsIn_in s o _ m (by omega) hs (by omega) ?_)
      rw [List.range'_succ, List.map_cons, List.filter_cons]
      by_cases g : (setMeld (selB s m) || runMeld (selB s m)) = true
      · rw [if_pos g, if_pos g]
        exact ih (m + 1) _ (by omega) (by rw [putR_length]; omega)
      · rw [if_neg g, if_neg g]
        exact ih (m + 1) _ (by omega) (by omega)
  have j0 : ∀ b : Bool, b = !(okM l) → Ev (fun k => impl_MeldsIn.j0 k l b) (meldsIn l) := by
    intro b hb
    refine ev_unfold (fun k => rfl) ?_
    simp only [impl_MeldsIn.j0]
    unfold meldsIn
    refine ev_ite (fun h => ?_) (fun h => ?_)
    · rw [if_neg (not_of (hb ▸ h))]
      exact Ev.now _
    · have hg : okM l = true := of_not (hb ▸ h)
      rw [if_pos hg]
      have h12 : l.length ≤ 12 := by unfold okM at hg; rw [Bool.and_eq_true, decide_eq_true_eq] at hg; exact hg.2
      have sl := sorted_length l
      refine Ev.bind (impl_Sorted_ev l hl) ?_
      have e : shl .i64 1 ((sorted l).length : Int) = ((2 ^ (sorted l).length : Nat) : Int) := by
        unfold shl
        have h2 : 2 ^ (sorted l).length ≤ 4096 := Nat.pow_le_pow_right (by omega) (show (sorted l).length ≤ 12 by omega)
        have hb : IntKind.i64.bits = 64 := rfl
        rw [hb, Int.toNat_natCast, Nat.min_eq_left (by omega), i64_w, Int.one_mul, show ((2 : Int) ^ (sorted l).length) = ((2 ^ (sorted l).length : Nat) : Int) by simp]
        generalize 2 ^ (sorted l).length = p at h2 ⊢
        exact w64 _ (by omega)
      rw [e]
      have := loop (sorted l) (by omega) (2 ^ (sorted l).length) 0 [] (by omega) (Nat.zero_le _)
      rw [← List.range_eq_range'] at this
      exact this
  simp only [impl_MeldsIn.f]
  refine Ev.bind (impl_IsHand_ev l hl) (ev_ite (fun h => j0 _ ?_) (fun h => j0 _ ?_))
  · unfold okM
    rw [h, Bool.true_and]
    by_cases g : l.length ≤ 12
    · rw [decide_eq_true g]; exact decide_eq_false (by omega)
    · rw [decide_eq_false g]; exact decide_eq_true (by omega)
  · unfold okM
    rw [Bool.eq_false_iff.2 h]; rfl

theorem laws_eqIntS_ev (a b : List Int) (ha : a.length ≤ 1048576000) : Ev (fun k => laws_eqIntS.f k a b) (decide (a = b)) := by
  simp only [laws_eqIntS.f]
  refine ev_ite (fun hlen => ?_) (fun hne => ev_ret ?_)
  · have hlen' : a.length = b.length := by omega
    have h := ev_loop (fun k (_ : Unit) i => laws_eqIntS.l0 k a b i) a (fun _ r => decide (r = b.drop (a.length - r.length))) (fun _ _ => True) ?_ ?_ () 0 (by omega) trivial
    · refine ev_done h ?_
      simp
    · rintro _ _
      refine ev_unfold (fun k => rfl) ?_
      simp only [laws_eqIntS.l0]
      refine ev_neg (by omega) (ev_ret ?_)
      rw [List.length_nil, Nat.sub_zero, hlen', drop_end]
      simp
    · rintro _ i hi _ ih
      refine ev_unfold (fun k => rfl) ?_
      simp only [laws_eqIntS.l0]
      refine ev_pos (by omega) (ev_pos (by omega) (ev_pos (by omega) ?_))
      rw [w64next i (by omega), rd_at a i hi, rd_at b i (by omega)]
      have e1 : a.length - (a[i] :: a.drop (i + 1)).length = i := by simp; omega
      have e2 : a.length - (a.drop (i + 1)).length = i + 1 := by simp; omega
      refine ev_ite (fun heq => ?_) (fun hne => ev_ret ?_)
      · refine ev_done (ih () trivial) ?_
        rw [e1, e2, drop_at b i (by omega), heq]
        exact decide_eq_decide.2 ⟨fun h => by rw [h], fun h => (List.cons.inj h).2⟩
      · rw [e1, drop_at b i (by omega)]
        exact (decide_eq_false (fun h => hne (List.cons.inj h).1)).symm
  · have : a ≠ b := by rintro rfl; exact hne rfl
    simp [this]

theorem laws_eqIntSS_ev (a b : List (List Int)) (ha : a.length ≤ 1048576000) (hr : ∀ r ∈ a, r.length ≤ 1048576000) : Ev (fun k => laws_eqIntSS.f k a b) (decide (a = b)) := by
  simp only [laws_eqIntSS.f]
  refine ev_ite (fun hlen => ?_) (fun hne => ev_ret ?_)
  · have hlen' : a.length = b.length := by omega
    refine ev_done (ev_loopN (fun k (_ : Unit) i => laws_eqIntSS.l0 k a b i) a.length (fun _ i => decide (a.drop i = b.drop i)) (fun _ _ => True) ?_ ?_ () 0 (by omega) trivial) (by simp)
    · rintro _ _
      refine ev_unfold (fun k => rfl) ?_
      simp only [laws_eqIntSS.l0]
      refine ev_neg (by omega) (ev_ret ?_)
      rw [drop_end, hlen', drop_end]; simp
    · rintro _ i hi _ ih
      refine ev_unfold (fun k => rfl) ?_
      simp only [laws_eqIntSS.l0]
      rw [w64next i (by omega), rdss_at a i hi, rdss_at b i (by omega), drop_at a i hi, drop_at b i (by omega)]
      refine ev_pos (by omega) (ev_pos (by omega) (ev_pos (by omega) (Ev.bind (laws_eqIntS_ev _ _ (hr _ (List.getElem_mem hi))) ?_)))
      refine ev_ite (fun heq => ?_) (fun hne => ev_ret ?_)
      · refine ev_done (ih () trivial) ?_
        have heq' := of_decide_eq_true heq
        exact decide_eq_decide.2 ⟨fun h => by rw [h, heq'], fun h => (List.cons.inj h).2⟩
      · exact (decide_eq_false (fun h => hne (decide_eq_true (List.cons.inj h).1))).symm
  · have : a ≠ b := by rintro rfl; exact hne rfl
    simp [this]

theorem laws_markIntS_ev (l : List Int) (a : Int) (hl : l.length ≤ 1073741824) (ha : 0 ≤ a ∧ a ≤ 1073741824) : Ev (fun k => laws_markIntS.f k l a) (a + (l.length : Int), marks a l.length) := by
  simp only [laws_markIntS.f]
  refine ev_loop (fun k (s : List Int × Int) i => laws_markIntS.l0 k s.1 s.2 i) l (fun _ _ => (a + (l.length : Int), marks a l.length)) (fun s i => s.1.length = l.length ∧ s.2 = a + i ∧ s.1.take i = marks a i) ?_ ?_ (l, a) 0 (by omega) ⟨rfl, by simp, by simp [marks]⟩
  · rintro ⟨s, n⟩ ⟨h1, h2, h3⟩
    simp only at h1 h2 h3
    refine ev_unfold (fun k => rfl) ?_
    simp only [laws_markIntS.l0]
    refine ev_neg (by omega) (ev_ret ?_)
    rw [List.take_of_length_le (by omega)] at h3
    rw [h2, h3]
  · rintro ⟨s, n⟩ i hi ⟨h1, h2, h3⟩ ih
    simp only at h1 h2 h3
    refine ev_unfold (fun k => rfl) ?_
    simp only [laws_markIntS.l0]
    refine ev_pos (by omega) (ev_pos (by omega) ?_)
    rw [w64next i (by omega), Int.toNat_natCast, w64 (n + 1) (by omega)]
    refine ih (s.set i n, n + 1) ⟨by simpa using h1, by simp only; omega, ?_⟩
    simp only [h2]
    exact marks_step a s i (by omega) h3

theorem laws_markIntSS_ev (l : List (List Int)) (a : Int) (hl : l.length ≤ 1048576000) (ht : totalLen l ≤ 268435456) (ha : 0 ≤ a ∧ a ≤ 268435456) : Ev (fun k => laws_markIntSS.f k l a) (a + (totalLen l : Int), markRows a l) := by
  simp only [laws_markIntSS.f]
  refine ev_loop (fun k (s : List (List Int) × Int) i => laws_markIntSS.l0 k s.1 s.2 i) l (fun _ _ => (a + (totalLen l : Int), markRows a l)) (fun s i => s.1 = markRows a (l.take i) ++ l.drop i ∧ s.2 = a + (totalLen (l.take i) : Int)) ?_ ?_ (l, a) 0 (by omega) ⟨by simp [markRows], by simp [totalLen]⟩
  · rintro ⟨s, n⟩ ⟨h1, h2⟩
    simp only at h1 h2
    rw [List.take_length, List.drop_length, List.append_nil] at h1
    rw [List.take_length] at h2
    refine ev_unfold (fun k => rfl) ?_
    simp only [laws_markIntSS.l0]
    refine ev_neg (by rw [h1, markRows_length]; omega) (ev_ret ?_)
    rw [h1, h2]
  · rintro ⟨s, n⟩ i hi ⟨h1, h2⟩ ih
    simp only at h1 h2
    have hm : (markRows a (l.take i)).length = i := by rw [markRows_length, List.length_take]; omega
    have hs : s.length = l.length := by rw [h1, List.length_append, hm, List.length_drop]; omega
    rw [drop_at l i hi] at h1
    have hg : s.getD (i : Int).toNat [] = l[i] := by
      rw [Int.toNat_natCast, h1, List.getD_eq_getElem?_getD, List.getElem?_append_right (by omega), hm, Nat.sub_self]
      rfl
    have hsp := totalLen_split l (i + 1)
    have htk : totalLen (l.take (i + 1)) = totalLen (l.take i) + l[i].length := by rw [take_at l i hi, totalLen_snoc]
    refine ev_unfold (fun k => rfl) ?_
    simp only [laws_markIntSS.l0]
    rw [hg, w64next i (by omega), Int.toNat_natCast]
    refine ev_pos (by omega) (ev_pos (by omega) (Ev.bind (laws_markIntS_ev l[i] n (by omega) (by omega)) (ih (s.set i (marks n l[i].length), n + (l[i].length : Int)) ⟨?_, ?_⟩)))
    · simp only
      rw [h1, List.set_append_right _ _ (by omega), hm, Nat.sub_self, List.set_cons_zero, take_at l i hi, markRows_snoc, List.append_assoc, h2]
      rfl
    · simp only
      rw [htk, h2]
      omega

theorem laws_heldIntS_ev (n : Nat) (a : Int) (hn : n ≤ 1073741824) (ha : 0 ≤ a ∧ a ≤ 1073741824) : Ev (fun k => laws_heldIntS.f k (marks a n) a) (a + (n : Int)) := by
  have hl := marks_length a n
  simp only [laws_heldIntS.f]
  refine ev_loop (fun k (s : Int) i => laws_heldIntS.l0 k (marks a n) s i) (marks a n) (fun _ _ => a + (n : Int)) (fun s i => s = a + i) ?_ ?_ a 0 (by omega) (by simp)
  · rintro s h
    refine ev_unfold (fun k => rfl) ?_
    simp only [laws_heldIntS.l0]
    refine ev_neg (by omega) (ev_ret ?_)
    rw [h, hl]
  · rintro s i hi h ih
    refine ev_unfold (fun k => rfl) ?_
    simp only [laws_heldIntS.l0]
    refine ev_pos (by omega) (ev_pos (by omega) ?_)
    rw [w64next i (by omega), rd_at _ i hi, marks_at, w64 (s + 1) (by omega)]
    refine ev_pos h.symm (ih _ (by omega))

theorem laws_heldIntSS_ev (l : List (List Int)) (a : Int) (hl : l.length ≤ 1048576000) (ht : totalLen l ≤ 268435456) (ha : 0 ≤ a ∧ a ≤ 268435456) : Ev (fun k => laws_heldIntSS.f k (markRows a l) a) (a + (totalLen l : Int)) := by
  simp only [laws_heldIntSS.f]
  have hm := markRows_length l a
  refine ev_loopN (fun k (s : Int) i => laws_heldIntSS.l0 k (markRows a l) s i) l.length (fun _ _ => a + (totalLen l : Int)) (fun s i => s = a + (totalLen (l.take i) : Int)) ?_ ?_ a 0 (by omega) (by simp [totalLen])
  · rintro s h
    rw [List.take_length] at h
    refine ev_unfold (fun k => rfl) ?_
    simp only [laws_heldIntSS.l0]
    exact ev_neg (by omega) (ev_ret h)
  · rintro s i hi h ih
    have hrow : rd_L1 (markRows a l) (i : Int) = marks s l[i].length := by
      rw [rdss_at _ i (by omega)]
      have e : markRows a l = markRows a (l.take i ++ [l[i]] ++ l.drop (i + 1)) := by rw [← take_at l i hi, List.take_append_drop]
      have key : ∀ (x y : List (List Int)) (a : Int), markRows a (x ++ y) = markRows a x ++ markRows (a + (totalLen x : Int)) y := by
        intro x
        induction x with
        | nil => intro y a; simp [markRows, totalLen]
        | cons r t ih => intro y a; show markRows a (r :: (t ++ y)) = _; simp only [markRows]; rw [ih, totalLen_cons, List.cons_append, show a + (r.length : Int) + (totalLen t : Int) = a + ((r.length + totalLen t : Nat) : Int) by omega]
      have e2 : markRows a l = markRows a (l.take i) ++ (marks s l[i].length :: markRows (a + (totalLen (l.take i ++ [l[i]]) : Int)) (l.drop (i + 1))) := by
        rw [e, key, markRows_snoc, List.append_assoc, h]
        rfl
      have hmi : (markRows a (l.take i)).length = i := by rw [markRows_length, List.length_take]; omega
      have : (markRows a l)[i]? = some (marks s l[i].length) := by
        rw [e2, List.getElem?_append_right (by omega), hmi, Nat.sub_self]
        rfl
      rw [List.getElem?_eq_getElem (by omega)] at this
      exact Option.some.inj this
    have hsp := totalLen_split l (i + 1)
    have htk : totalLen (l.take (i + 1)) = totalLen (l.take i) + l[i].length := by rw [take_at l i hi, totalLen_snoc]
    refine ev_unfold (fun k => rfl) ?_
    simp only [laws_heldIntSS.l0]
    rw [hrow, w64next i (by omega)]
    refine ev_pos (by omega) (ev_pos (by omega) (Ev.bind (laws_heldIntS_ev l[i].length s (by omega) (by omega)) (ev_neg (by omega) (ih _ ?_))))
    rw [htk, h]
    omega

set_option maxHeartbeats 8000000 in
set_option maxRecDepth 100000 in
theorem FnExactMeldsIn (A1 : Option Addr) (c1 : Nat) (l1 : List Int) (w : World) (hr1 : Kd.C (Kd.int .i64) w A1 l1.length l1) (hc1 : l1.length ≤ c1)
    (hl1 : l1.length ≤ maxLen) (_ : ∀ x ∈ l1, (Lit.int .i64 x).wf = true) :
    Calls Try.prog 4 #[.slice A1 l1.length c1] w fun e_ w' => e_ = .returned (.bool true) ∧ Below w.heap.size w w' := by
  have HR1 := Aside0.mk hr1
  have HC1 := Aside0.mk hc1
  clear hr1 hc1
  have HB := Aside0.mk (Below.refl w.heap.size w)
  by_cases g1 : (l1.length : Int) > 1048576
  · have g1a : decide (1048576 < (l1.length : Int)) = true := decide_eq_true g1
    have g1b : decide (1048576 < l1.length) = true := decide_eq_true (by omega)
    clear g1
    go_enter Try.func4, Try.ntmps4
    go_wp2
    go_ret
    exact ⟨rfl, HB.out⟩
  have g1a : decide (1048576 < (l1.length : Int)) = false := decide_eq_false (by omega)
  have g1b : decide (1048576 < l1.length) = false := decide_eq_false (by omega)
  obtain ⟨k1, e1⟩ := (laws_toIntS_ev l1 (by omega)).rounds
  obtain ⟨Y, hY⟩ : ∃ Y, Y = meldsIn l1 := ⟨_, rfl⟩
  obtain ⟨k2, e2⟩ := (spec_MeldsIn_ev l1 (by omega)).rounds
  obtain ⟨k3, e3⟩ := (impl_MeldsIn_ev l1 (by omega)).rounds
  rw [← hY] at e2 e3
  obtain ⟨y1, y2, y3⟩ := meldsIn_small l1
  rw [← hY] at y1 y2 y3
  clear hY
  obtain ⟨k4, e4⟩ := (laws_eqIntSS_ev Y Y (by omega) (fun r hr => by have := y3 r hr; omega)).rounds
  obtain ⟨k6, e6⟩ := (laws_eqIntS_ev l1 l1 (by omega)).rounds
  rw [decide_eq_true rfl] at e4 e6
  obtain ⟨k7, e7⟩ := (laws_markIntS_ev l1 1 (by omega) (by omega)).rounds
  obtain ⟨k8, e8⟩ := (laws_markIntSS_ev Y 1 (by omega) (by omega) (by omega)).rounds
  obtain ⟨k10, e10⟩ := (laws_heldIntSS_ev Y 1 (by omega) (by omega) (by omega)).rounds
  obtain ⟨t1, ht1⟩ : ∃ t1, t1 = 1 + (l1.length : Int) := ⟨_, rfl⟩
  rw [← ht1] at e7
  obtain ⟨m1, hm1⟩ : ∃ m1, m1 = 1 + (totalLen Y : Int) := ⟨_, rfl⟩
  rw [← hm1] at e8 e10
  obtain ⟨M, hM⟩ : ∃ M, M = markRows 1 Y := ⟨_, rfl⟩
  rw [← hM] at e8 e10
  obtain ⟨X1, hX1⟩ : ∃ X, X = marks 1 l1.length := ⟨_, rfl⟩
  rw [← hX1] at e7
  have g3 : decide (t1 < 0) = false := decide_eq_false (by omega)
  have g4 : decide (m1 < 0) = false := decide_eq_false (by omega)
  have E1 := Aside0.mk e1
  have E2 := Aside0.mk e2
  have E3 := Aside0.mk e3
  have E4 := Aside0.mk e4
  have E6 := Aside0.mk e6
  have E7 := Aside0.mk e7
  have E8 := Aside0.mk e8
  have E10 := Aside0.mk e10
  clear e1 e2 e3 e4 e6 e7 e8 e10 ht1 hm1 hM hX1 y1 y2 y3 g1 hl1
  go_enter Try.func4, Try.ntmps4
  go_wp2_with (first | (go_at_call 30; (with_reducible refine (laws_toIntS.calls k1 _ _ l1 l1 _ (Kd.C_below HR1.out HB.out) HC1.out E1.out).mono ?_); rintro e w1_ ⟨v1_0, rfl, ho0, hb⟩; obtain ⟨A1_0, c1_0, rfl⟩ := Kd.R_slice ho0; have s1_ := Aside0.mk hb.size; have Fa := Aside0.mk (show Kd.R (Kd.int .i64) 3 w1_ w.heap.size (fun k_ => (w.heap.size ≤ k_ ∧ k_ < w1_.heap.size ∧ some k_ = ((.slice A1_0 l1.length c1_0) : Value).ownBlock)) (.slice A1_0 l1.length c1_0) l1 from Kd.R_lower (Kd.R_mono (Kd.R_bound (Kd.R_tight rfl ho0)) (fun k_ hk => (⟨hk.2.1, hk.2.2.1, hk.1⟩ : _ ∧ _ ∧ _))) (below_size HB.out)); replace HB := Aside0.mk (below_step HB.out hb); (try clear hb); (try clear ho0)))
  go_wp2_with (first | (go_at_call 29; (with_reducible refine (spec_MeldsIn.calls k2 _ _ l1 Y _ (Kd.R_reads' Fa.out).2.2 (Kd.R_reads' Fa.out).2.1 E2.out).mono ?_); rintro e w2_ ⟨v2_0, rfl, ho0, hb⟩; obtain ⟨A2_0, c2_0, rfl⟩ := Kd.N_slice ho0; have s2_ := Aside0.mk hb.size; replace Fa := Aside0.mk (Kd.R_below Fa.out hb); have Fw := Aside0.mk (show Kd.N (Kd.slice 3 (Kd.int .i64)) 24 w2_ w.heap.size (fun k_ => (w1_.heap.size ≤ k_ ∧ k_ < w2_.heap.size)) (.slice A2_0 Y.length c2_0) Y from Kd.N_lower (Kd.N_mono (Kd.N_bound ho0) (fun k_ hk => (⟨hk.1, hk.2⟩ : _ ∧ _))) (below_size HB.out)); replace HB := Aside0.mk (below_step HB.out hb); (try clear hb); (try clear ho0)))
  go_wp2_with (first | (go_at_call 30; (with_reducible refine (laws_toIntS.calls k1 _ _ l1 l1 _ (Kd.C_below HR1.out HB.out) HC1.out E1.out).mono ?_); rintro e w3_ ⟨v3_0, rfl, ho0, hb⟩; obtain ⟨A3_0, c3_0, rfl⟩ := Kd.R_slice ho0; have s3_ := Aside0.mk hb.size; replace Fa := Aside0.mk (Kd.R_below Fa.out hb); replace Fw := Aside0.mk (Kd.N_below Fw.out hb); have Fx := Aside0.mk (show Kd.R (Kd.int .i64) 3 w3_ w.heap.size (fun k_ => (w2_.heap.size ≤ k_ ∧ k_ < w3_.heap.size ∧ some k_ = ((.slice A3_0 l1.length c3_0) : Value).ownBlock)) (.slice A3_0 l1.length c3_0) l1 from Kd.R_lower (Kd.R_mono (Kd.R_bound (Kd.R_tight rfl ho0)) (fun k_ hk => (⟨hk.2.1, hk.2.2.1, hk.1⟩ : _ ∧ _ ∧ _))) (below_size HB.out)); replace HB := Aside0.mk (below_step HB.out hb); (try clear hb); (try clear ho0)))
  go_wp2_with (first | (go_at_call 31; (with_reducible refine (impl_MeldsIn.calls k3 _ _ l1 Y _ (Kd.R_reads' Fx.out).2.2 (Kd.R_reads' Fx.out).2.1 E3.out).mono ?_); rintro e w4_ ⟨v4_0, rfl, ho0, hb⟩; obtain ⟨A4_0, c4_0, rfl⟩ := Kd.S_slice ho0; have s4_ := Aside0.mk hb.size; replace Fa := Aside0.mk (Kd.R_below Fa.out hb); replace Fw := Aside0.mk (Kd.N_below Fw.out hb); replace Fx := Aside0.mk (Kd.R_below Fx.out hb); have Fg := Aside0.mk (show Kd.S (Kd.slice 3 (Kd.int .i64)) 24 w4_ w.heap.size (fun k_ => (w3_.heap.size ≤ k_ ∧ k_ < w4_.heap.size)) (.slice A4_0 Y.length c4_0) Y from Kd.S_lower (Kd.S_mono (Kd.S_bound ho0) (fun k_ hk => (⟨hk.2.1, hk.2.2.1⟩ : _ ∧ _))) (below_size HB.out)); replace HB := Aside0.mk (below_step HB.out hb); (try clear hb); (try clear ho0)))
  go_wp2_with (first | (go_at_call 32; (with_reducible refine (laws_eqIntSS.calls k4 _ _ Y _ _ Y true _ (Kd.S_reads' Fg.out).2.2 (Kd.S_reads' Fg.out).2.1 (Kd.N_reads' Fw.out).2.2 (Kd.N_reads' Fw.out).2.1 E4.out).mono ?_); rintro e w5_ ⟨rfl, hd⟩; have hb := hd.below; have s5_ := Aside0.mk hb.size; replace Fa := Aside0.mk (Kd.R_below Fa.out hb); replace Fw := Aside0.mk (Kd.N_below Fw.out hb); replace Fx := Aside0.mk (Kd.R_below Fx.out hb); replace Fg := Aside0.mk (Kd.S_below Fg.out hb); replace HB := Aside0.mk (below_step HB.out hb); (try clear hb); (try clear hd)))
  go_wp2_with (first | (go_at_call 30; (with_reducible refine (laws_toIntS.calls k1 _ _ l1 l1 _ (Kd.C_below HR1.out HB.out) HC1.out E1.out).mono ?_); rintro e w6_ ⟨v6_0, rfl, ho0, hb⟩; obtain ⟨A6_0, c6_0, rfl⟩ := Kd.R_slice ho0; have s6_ := Aside0.mk hb.size; replace Fa := Aside0.mk (Kd.R_below Fa.out hb); replace Fw := Aside0.mk (Kd.N_below Fw.out hb); replace Fx := Aside0.mk (Kd.R_below Fx.out hb); replace Fg := Aside0.mk (Kd.S_below Fg.out hb); have Fb := Aside0.mk (show Kd.R (Kd.int .i64) 3 w6_ w.heap.size (fun k_ => (w5_.heap.size ≤ k_ ∧ k_ < w6_.heap.size ∧ some k_ = ((.slice A6_0 l1.length c6_0) : Value).ownBlock)) (.slice A6_0 l1.length c6_0) l1 from Kd.R_lower (Kd.R_mono (Kd.R_bound (Kd.R_tight rfl ho0)) (fun k_ hk => (⟨hk.2.1, hk.2.2.1, hk.1⟩ : _ ∧ _ ∧ _))) (below_size HB.out)); replace HB := Aside0.mk (below_step HB.out hb); (try clear hb); (try clear ho0)))
  go_wp2_with (first | (go_at_call 33; (with_reducible refine (laws_eqIntS.calls k6 _ _ l1 _ _ l1 true _ (Kd.R_reads' Fx.out).2.2 (Kd.R_reads' Fx.out).2.1 (Kd.R_reads' Fb.out).2.2 (Kd.R_reads' Fb.out).2.1 E6.out).mono ?_); rintro e w7_ ⟨rfl, hd⟩; have hb := hd.below; have s7_ := Aside0.mk hb.size; replace Fa := Aside0.mk (Kd.R_below Fa.out hb); replace Fw := Aside0.mk (Kd.N_below Fw.out hb); replace Fx := Aside0.mk (Kd.R_below Fx.out hb); replace Fg := Aside0.mk (Kd.S_below Fg.out hb); replace Fb := Aside0.mk (Kd.R_below Fb.out hb); replace HB := Aside0.mk (below_step HB.out hb); (try clear hb); (try clear hd)))
  clear Fa Fb
  go_wp2_with (first | (go_at_call 34; (with_reducible refine (laws_markIntS.calls k7 (fun k_ => (w2_.heap.size ≤ k_ ∧ k_ < w3_.heap.size ∧ some k_ = ((.slice A3_0 l1.length c3_0) : Value).ownBlock)) _ l1 1 t1 X1 w _ HB.out Fx.out E7.out).mono ?_); rintro e w8_ ⟨rfl, ho, hb, hk⟩; have s8_ := Aside0.mk hk.1; replace Fw := Aside0.mk (Kd.N_kept Fw.out hk (fun k_ (h1_ : (w1_.heap.size ≤ k_ ∧ k_ < w2_.heap.size)) (h2_ : (w2_.heap.size ≤ k_ ∧ k_ < w3_.heap.size ∧ some k_ = ((.slice A3_0 l1.length c3_0) : Value).ownBlock)) => by have := s1_.out; have := s2_.out; have := s3_.out; have := s4_.out; have := s5_.out; have := s6_.out; have := s7_.out; (first | omega | exact h2_.2.2 h1_.2.2 | exact h1_.2.2 h2_.2.2))); replace Fg := Aside0.mk (Kd.S_kept Fg.out hk (fun k_ (h1_ : (w3_.heap.size ≤ k_ ∧ k_ < w4_.heap.size)) (h2_ : (w2_.heap.size ≤ k_ ∧ k_ < w3_.heap.size ∧ some k_ = ((.slice A3_0 l1.length c3_0) : Value).ownBlock)) => by have := s1_.out; have := s2_.out; have := s3_.out; have := s4_.out; have := s5_.out; have := s6_.out; have := s7_.out; (first | omega | exact h2_.2.2 h1_.2.2 | exact h1_.2.2 h2_.2.2))); replace Fx := Aside0.mk (show Kd.R (Kd.int .i64) 3 w8_ w.heap.size (fun k_ => (w2_.heap.size ≤ k_ ∧ k_ < w3_.heap.size ∧ some k_ = ((.slice A3_0 l1.length c3_0) : Value).ownBlock)) (.slice A3_0 l1.length c3_0) X1 from Kd.R_mono (Kd.R_tight rfl ho) (fun k_ e_ => Fx.out.1 k_ e_.symm)); replace HB := Aside0.mk (hb); (try clear hb); (try clear hk); (try clear ho)))
  go_wp2_with (first | (go_at_call 32; (with_reducible refine (laws_eqIntSS.calls k4 _ _ Y _ _ Y true _ (Kd.S_reads' Fg.out).2.2 (Kd.S_reads' Fg.out).2.1 (Kd.N_reads' Fw.out).2.2 (Kd.N_reads' Fw.out).2.1 E4.out).mono ?_); rintro e w9_ ⟨rfl, hd⟩; have hb := hd.below; have s9_ := Aside0.mk hb.size; replace Fw := Aside0.mk (Kd.N_below Fw.out hb); replace Fx := Aside0.mk (Kd.R_below Fx.out hb); replace Fg := Aside0.mk (Kd.S_below Fg.out hb); replace HB := Aside0.mk (below_step HB.out hb); (try clear hb); (try clear hd)))
  go_wp2_with (first | (go_at_call 35; (with_reducible refine (laws_markIntSS.calls k8 (fun k_ => (w3_.heap.size ≤ k_ ∧ k_ < w4_.heap.size)) _ Y 1 m1 M w _ HB.out Fg.out E8.out).mono ?_); rintro e w10_ ⟨rfl, ho, hb, hk⟩; have s10_ := Aside0.mk hk.1; replace Fw := Aside0.mk (Kd.N_kept Fw.out hk (fun k_ (h1_ : (w1_.heap.size ≤ k_ ∧ k_ < w2_.heap.size)) (h2_ : (w3_.heap.size ≤ k_ ∧ k_ < w4_.heap.size)) => by have := s1_.out; have := s2_.out; have := s3_.out; have := s4_.out; have := s5_.out; have := s6_.out; have := s7_.out; have := s8_.out; have := s9_.out; (first | omega | exact h2_.2.2 h1_.2.2 | exact h1_.2.2 h2_.2.2))); replace Fx := Aside0.mk (Kd.R_kept Fx.out hk (fun k_ (h1_ : (w2_.heap.size ≤ k_ ∧ k_ < w3_.heap.size ∧ some k_ = ((.slice A3_0 l1.length c3_0) : Value).ownBlock)) (h2_ : (w3_.heap.size ≤ k_ ∧ k_ < w4_.heap.size)) => by have := s1_.out; have := s2_.out; have := s3_.out; have := s4_.out; have := s5_.out; have := s6_.out; have := s7_.out; have := s8_.out; have := s9_.out; (first | omega | exact h2_.2.2 h1_.2.2 | exact h1_.2.2 h2_.2.2))); replace Fg := Aside0.mk (show Kd.S (Kd.slice 3 (Kd.int .i64)) 24 w10_ w.heap.size (fun k_ => ((w3_.heap.size ≤ k_ ∧ k_ < w4_.heap.size) ∨ (w9_.heap.size ≤ k_ ∧ k_ < w10_.heap.size))) (.slice A4_0 Y.length c4_0) M from Kd.S_mono (Kd.S_bound ho) (fun k_ hk_ => hk_.1.elim .inl (fun h_ => .inr ⟨h_, hk_.2.2.1⟩))); replace HB := Aside0.mk (hb); (try clear hb); (try clear hk); (try clear ho)))
  go_wp2_with (first | (go_at_call 36; refine calls_of_args (args' := #[.slice A4_0 M.length c4_0, .int .i64 1]) (by rw [← (Kd.S_reads' Fg.out).1]) ?_; (with_reducible refine (laws_heldIntSS.calls k10 _ _ M 1 m1 _ (Kd.S_reads' Fg.out).2.2 (by have h_ := Kd.S_reads' Fg.out; omega) E10.out).mono ?_); rintro e w11_ ⟨rfl, hd⟩; have hb := hd.below; have s11_ := Aside0.mk hb.size; replace Fw := Aside0.mk (Kd.N_below Fw.out hb); replace Fx := Aside0.mk (Kd.R_below Fx.out hb); replace Fg := Aside0.mk (Kd.S_below Fg.out hb); replace HB := Aside0.mk (below_step HB.out hb); (try clear hb); (try clear hd)))
  clear Fx
  go_wp2_with (first | (go_at_call 30; (with_reducible refine (laws_toIntS.calls k1 _ _ l1 l1 _ (Kd.C_below HR1.out HB.out) HC1.out E1.out).mono ?_); rintro e w12_ ⟨v12_0, rfl, ho0, hb⟩; obtain ⟨A12_0, c12_0, rfl⟩ := Kd.R_slice ho0; have s12_ := Aside0.mk hb.size; replace Fw := Aside0.mk (Kd.N_below Fw.out hb); replace Fg := Aside0.mk (Kd.S_below Fg.out hb); replace Fx := Aside0.mk (show Kd.R (Kd.int .i64) 3 w12_ w.heap.size (fun k_ => (w11_.heap.size ≤ k_ ∧ k_ < w12_.heap.size ∧ some k_ = ((.slice A12_0 l1.length c12_0) : Value).ownBlock)) (.slice A12_0 l1.length c12_0) l1 from Kd.R_lower (Kd.R_mono (Kd.R_bound (Kd.R_tight rfl ho0)) (fun k_ hk => (⟨hk.2.1, hk.2.2.1, hk.1⟩ : _ ∧ _ ∧ _))) (below_size HB.out)); replace HB := Aside0.mk (below_step HB.out hb); (try clear hb); (try clear ho0)))
  go_wp2_with (first | (go_at_call 31; (with_reducible refine (impl_MeldsIn.calls k3 _ _ l1 Y _ (Kd.R_reads' Fx.out).2.2 (Kd.R_reads' Fx.out).2.1 E3.out).mono ?_); rintro e w13_ ⟨v13_0, rfl, ho0, hb⟩; obtain ⟨A13_0, c13_0, rfl⟩ := Kd.S_slice ho0; have s13_ := Aside0.mk hb.size; replace Fw := Aside0.mk (Kd.N_below Fw.out hb); replace Fg := Aside0.mk (Kd.S_below Fg.out hb); replace Fx := Aside0.mk (Kd.R_below Fx.out hb); have Fi := Aside0.mk (show Kd.S (Kd.slice 3 (Kd.int .i64)) 24 w13_ w.heap.size (fun k_ => (w12_.heap.size ≤ k_ ∧ k_ < w13_.heap.size)) (.slice A13_0 Y.length c13_0) Y from Kd.S_lower (Kd.S_mono (Kd.S_bound ho0) (fun k_ hk => (⟨hk.2.1, hk.2.2.1⟩ : _ ∧ _))) (below_size HB.out)); replace HB := Aside0.mk (below_step HB.out hb); (try clear hb); (try clear ho0)))
  go_wp2_with (first | (go_at_call 32; (with_reducible refine (laws_eqIntSS.calls k4 _ _ Y _ _ Y true _ (Kd.S_reads' Fi.out).2.2 (Kd.S_reads' Fi.out).2.1 (Kd.N_reads' Fw.out).2.2 (Kd.N_reads' Fw.out).2.1 E4.out).mono ?_); rintro e w14_ ⟨rfl, hd⟩; have hb := hd.below; have s14_ := Aside0.mk hb.size; replace Fw := Aside0.mk (Kd.N_below Fw.out hb); replace Fg := Aside0.mk (Kd.S_below Fg.out hb); replace Fx := Aside0.mk (Kd.R_below Fx.out hb); replace Fi := Aside0.mk (Kd.S_below Fi.out hb); replace HB := Aside0.mk (below_step HB.out hb); (try clear hb); (try clear hd)))
  go_wp2_with (first | (go_at_call 36; refine calls_of_args (args' := #[.slice A4_0 M.length c4_0, .int .i64 1]) (by rw [← (Kd.S_reads' Fg.out).1]) ?_; (with_reducible refine (laws_heldIntSS.calls k10 _ _ M 1 m1 _ (Kd.S_reads' Fg.out).2.2 (by have h_ := Kd.S_reads' Fg.out; omega) E10.out).mono ?_); rintro e w15_ ⟨rfl, hd⟩; have hb := hd.below; have s15_ := Aside0.mk hb.size; replace Fw := Aside0.mk (Kd.N_below Fw.out hb); replace Fg := Aside0.mk (Kd.S_below Fg.out hb); replace Fx := Aside0.mk (Kd.R_below Fx.out hb); replace Fi := Aside0.mk (Kd.S_below Fi.out hb); replace HB := Aside0.mk (below_step HB.out hb); (try clear hb); (try clear hd)))
  go_ret
  exact ⟨rfl, HB.out⟩

end Go.Proofs.Ytecjbogconeilaa.Pure
