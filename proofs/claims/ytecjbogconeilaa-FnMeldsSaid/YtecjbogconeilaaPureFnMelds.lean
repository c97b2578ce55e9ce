/- In the given program FnMelds answers true for every input, by what its functions compute; no condition. -/
import Derived.Test.YtecjbogconeilaaQFnMeldsx8
import Derived.Test.YtecjbogconeilaaLib
import Derived.Test.YtecjbogconeilaaCards
import Derived.Test.YtecjbogconeilaaCards2
import Derived.Test.YtecjbogconeilaaCalls
import Derived.Test.YtecjbogconeilaaHands
import Derived.Test.YtecjbogconeilaaSort
import Derived.Test.YtecjbogconeilaaDraw
import Derived.Test.YtecjbogconeilaaAsc
import Derived.Test.YtecjbogconeilaaDeal
import Derived.Test.YtecjbogconeilaaMarks
import Derived.Test.YtecjbogconeilaaFive
import Derived.Test.YtecjbogconeilaaOrder
import Derived.Test.YtecjbogconeilaaMeldSet
import Derived.Test.YtecjbogconeilaaMeldRun
import Derived.Test.YtecjbogconeilaaLeft
import Derived.Test.YtecjbogconeilaaChain
namespace Go.Proofs.Ytecjbogconeilaa.Pure
open Go.RowKit Go.Proofs.Ytecjbogconeilaa.QFnMelds Go.Proofs.YtecjbogconeilaaW.PrintWords Go.Proofs.YtecjbogconeilaaW.PrintLast Go.Proofs.YtecjbogconeilaaW.PrintMore Go.Proofs.Ytecjbogconeilaa.Lib
set_option linter.unusedVariables false
set_option linter.unusedSimpArgs false

theorem rdss_at (l : List (List Int)) (i : Nat) (h : i < l.length) : rd_L2 l (i : Int) = l[i] := by
  unfold rd_L2
  rw [Int.toNat_natCast, List.getD_eq_getElem?_getD, List.getElem?_eq_getElem h]
  rfl

theorem laws_big_eq (l : List Int) : laws_big.f l = some (decide ((l.length : Int) > 1048576)) := rfl

theorem impl_InRange_eq (n a b : Int) : impl_InRange.f n a b = some (inR n a b) := by
  unfold impl_InRange.f inR
  by_cases h : a ≤ n
  · rw [if_pos (by omega)]; simp [h]
  · rw [if_neg (by omega)]; simp [h]

theorem impl_IsCard_eq (c : Int) : impl_IsCard.f c = some (isCard c) := by
  unfold impl_IsCard.f isCard
  rw [impl_InRange_eq]; rfl

theorem impl_IsHand_ev (l : List Int) (hl : l.length ≤ 1048576000) : Ev (fun k => impl_IsHand.f k l) (isHand l) := by
  simp only [impl_IsHand.f]
  refine ev_done (ev_loopN (fun k (s : List Bool) i => impl_IsHand.l0 k l s i) l.length (fun _ i => handF (l.take i) (l.drop i)) (fun s i => s.length = 52 ∧ ∀ c : Nat, c < 52 → s.getD c false = decide ((c : Int) ∈ l.take i)) ?_ ?_ _ 0 (by omega) ⟨by simp, fun c hc => by rw [List.getD_eq_getElem?_getD, List.getElem?_replicate, if_pos hc]; simp⟩) (by simp [isHand])
  · rintro s _
    refine ev_unfold (fun k => rfl) ?_
    simp only [impl_IsHand.l0]
    refine ev_neg (by omega) (ev_ret ?_)
    rw [drop_end]; rfl
  · rintro s i hi ⟨h52, hs⟩ ih
    refine ev_unfold (fun k => rfl) ?_
    simp only [impl_IsHand.l0]
    rw [w64next i (by omega), rd_at l i hi, drop_at l i hi]
    unfold handF
    refine ev_pos (by omega) (ev_pos (by omega) (ev_eq (impl_IsCard_eq _) (ev_ite (fun h => ?_) (fun h => ev_ret ?_))))
    · have hc := (isCard_iff _).1 h
      have he := hs l[i].toNat (by omega)
      rw [show ((l[i].toNat : Nat) : Int) = l[i] by omega] at he
      refine ev_pos (by omega) (ev_pos (by omega) (ev_ite (fun h2 => ev_ret ?_) (fun h2 => ev_done (ih _ ⟨by simpa using h52, fun c hc2 => ?_⟩) ?_)))
      · rw [h2] at he
        unfold hasCard
        rw [← he]; simp
      · rw [take_at l i hi, List.getD_eq_getElem?_getD, List.getElem?_set]
        have h3 := hs c hc2
        rw [List.getD_eq_getElem?_getD] at h3
        by_cases hci : l[i].toNat = c
        · rw [if_pos hci, if_pos (by omega)]
          have : (c : Int) = l[i] := by omega
          exact (decide_eq_true (List.mem_append.2 (.inr (by rw [this]; exact List.mem_singleton.2 rfl)))).symm
        · rw [if_neg hci, h3]
          have : ¬ (c : Int) = l[i] := by omega
          exact decide_eq_decide.2 ⟨fun h => List.mem_append.2 (.inl h), fun h => (List.mem_append.1 h).resolve_right (fun h => this (List.mem_singleton.1 h))⟩
      · rw [Bool.not_eq_true] at h2
        rw [h2] at he
        unfold hasCard
        rw [h, ← he, take_at l i hi]; simp
    · rw [Bool.not_eq_true] at h
      rw [h]; simp

theorem impl_RankOf_eq (c : Int) : impl_RankOf.f c = some (rankOf c) := by
  unfold impl_RankOf.f rankOf
  rw [impl_IsCard_eq]
  simp only [Option.bind_some]
  by_cases h : isCard c = true
  · rw [if_pos h, if_pos h, Int.tmod_eq_emod_of_nonneg ((isCard_iff c).1 h).1]
  · rw [if_neg h, if_neg h]

theorem impl_IsSetMeld_ev (l : List Int) (hl : l.length ≤ 1048576000) : Ev (fun k => impl_IsSetMeld.f k l) (setMeld l) := by
  have l0 : Ev (fun k => impl_IsSetMeld.l0 k l l (l.length : Int) 0) (l.all fun c => decide (rankOf c = rankOf (rd l 0))) := by
    refine ev_done (ev_loop (fun k (_ : Unit) i => impl_IsSetMeld.l0 k l l (l.length : Int) i) l (fun _ r => (r.all fun c => decide (rankOf c = rankOf (rd l 0)))) (fun _ _ => True) ?_ ?_ () 0 (by omega) trivial) rfl
    · rintro s _
      refine ev_unfold (fun k => rfl) ?_
      simp only [impl_IsSetMeld.l0]
      exact ev_neg (by omega) (ev_ret rfl)
    · rintro s i hi _ ih
      refine ev_unfold (fun k => rfl) ?_
      simp only [impl_IsSetMeld.l0, impl_RankOf_eq, Option.bind_some]
      rw [w64next i (by omega), rd_at l i hi, List.all_cons]
      refine ev_pos (by omega) (ev_pos (by omega) (ev_pos (by omega) (ev_pos (by omega) (ev_ite (fun h => ev_done (ih () trivial) ?_) (fun h => ev_ret ?_)))))
      · rw [show decide (rankOf l[i] = rankOf (rd l 0)) = true from decide_eq_true h, Bool.true_and]
      · rw [show decide (rankOf l[i] = rankOf (rd l 0)) = false from decide_eq_false h]; simp
  have j0 : ∀ b, Ev (fun k => impl_IsSetMeld.j0 k l b) (!b && l.all fun c => decide (rankOf c = rankOf (rd l 0))) := by
    intro b
    refine ev_unfold (fun k => rfl) ?_
    simp only [impl_IsSetMeld.j0]
    refine ev_ite (fun h => ?_) (fun h => ?_)
    · rw [h]; exact Ev.now _
    · rw [Bool.not_eq_true] at h; rw [h]; exact ev_done l0 (by simp)
  simp only [impl_IsSetMeld.f, impl_InRange_eq, Option.bind_some]
  unfold setMeld
  refine Ev.bind (impl_IsHand_ev l hl) (ev_ite (fun h => ev_done (j0 _) ?_) (fun h => ev_done (j0 _) ?_))
  · rw [h]; simp
  · rw [Bool.not_eq_true] at h; rw [h]; simp

theorem impl_Sorted_ev (l : List Int) (hl : l.length ≤ 1048576000) : Ev (fun k => impl_Sorted.f k l) (sorted l) := by
  simp only [impl_Sorted.f]
  refine ev_done (ev_loop (fun k (s : List Int) i => impl_Sorted.l0 k s l (l.length : Int) i) l (fun s r => sortF s r) (fun s i => s.length = i) ?_ ?_ [] 0 (by omega) rfl) rfl
  · rintro s _
    refine ev_unfold (fun k => rfl) ?_
    simp only [impl_Sorted.l0]
    exact ev_neg (by omega) (ev_ret rfl)
  · rintro s i hi hs ih
    have l1 : ∀ q : Nat, q ≤ s.length → Ev (fun k => impl_Sorted.l1 k s l[i] (q : Int) l (l.length : Int) (i : Int)) (sortF (insAt s (backF s l[i] q) l[i]) (l.drop (i + 1))) := by
      have fin : ∀ q : Nat, q ≤ s.length → Ev (fun k => if s.length < 17592186044416 then ((some (s ++ [0] : List Int)).bind fun y => (if 0 ≤ (q : Int) then (if (q : Int) < (y.length : Int) then (impl_Sorted.l0 k ((Arr.shifted y (q : Int).toNat).set (q : Int).toNat l[i]) l (l.length : Int) (wrap64 ((i : Int) + 1))) else none) else none)) else none) (sortF (insAt s q l[i]) (l.drop (i + 1))) := by
        intro q hq
        refine ev_pos (by omega) ?_
        simp only [Option.bind_some]
        rw [w64next i (by omega), Int.toNat_natCast, shift_set s 0 l[i] q hq]
        refine ev_pos (by omega) (ev_pos (by simp; omega) (ih _ ?_))
        rw [insAt_length _ _ _ hq, hs]
      intro q
      induction q with
      | zero =>
        intro hq
        refine ev_unfold (fun k => rfl) ?_
        simp only [impl_Sorted.l1]
        refine ev_neg (by omega) ?_
        exact fin 0 (by omega)
      | succ q ihq =>
        intro hq
        refine ev_unfold (fun k => rfl) ?_
        simp only [impl_Sorted.l1]
        have e1 : wrap64 (((q + 1 : Nat) : Int) - 1) = (q : Int) := by rw [w64 _ (by omega)]; omega
        rw [e1]
        refine ev_pos (by omega) (ev_pos (by omega) (ev_pos (by omega) ?_))
        unfold backF
        refine ev_ite (fun h => ?_) (fun h => ?_)
        · rw [if_pos h]; exact ihq (by omega)
        · rw [if_neg h]; exact fin (q + 1) hq
    refine ev_unfold (fun k => rfl) ?_
    simp only [impl_Sorted.l0]
    rw [rd_at l i hi]
    exact ev_pos (by omega) (ev_pos (by omega) (ev_pos (by omega) (l1 s.length (Nat.le_refl _))))

theorem impl_SuitOf_eq (c : Int) : impl_SuitOf.f c = some (suitOf c) := by
  unfold impl_SuitOf.f suitOf
  rw [impl_IsCard_eq]
  simp only [Option.bind_some]
  by_cases h : isCard c = true
  · have h2 := (isCard_iff c).1 h
    rw [if_pos h, if_pos h, Int.tdiv_eq_ediv_of_nonneg h2.1, w64 _ (by omega)]
  · rw [if_neg h, if_neg h]

theorem impl_IsRunMeld_ev (l : List Int) (hl : l.length ≤ 1048576000) : Ev (fun k => impl_IsRunMeld.f k l) (runMeld l) := by
  have hsl := sorted_length l
  have l0 : Ev (fun k => impl_IsRunMeld.l0 k (sorted l) (sorted l) ((sorted l).length : Int) 0) (allFrom (sorted l).length 0 (chainB (sorted l))) := by
    refine ev_done (ev_loopN (fun k (_ : Unit) i => impl_IsRunMeld.l0 k (sorted l) (sorted l) ((sorted l).length : Int) i) (sorted l).length (fun _ i => allFrom (sorted l).length i (chainB (sorted l))) (fun _ i => True) ?_ ?_ () 0 (by omega) trivial) rfl
    · rintro s _
      refine ev_unfold (fun k => rfl) ?_
      simp only [impl_IsRunMeld.l0]
      rw [allFrom_end]
      exact ev_neg (by omega) (Ev.now _)
    · rintro s i hi _ ih
      refine ev_unfold (fun k => rfl) ?_
      simp only [impl_IsRunMeld.l0, impl_SuitOf_eq, Option.bind_some]
      rw [w64next i (by omega), allFrom_step _ hi]
      unfold chainB
      refine ev_pos (by omega) (ev_pos (by omega) (ev_pos (by omega) (ev_pos (by omega) (ev_ite (fun h => ?_) (fun h => ev_ret ?_)))))
      · refine ev_ite (fun h2 => ev_done (ih () trivial) ?_) (fun h2 => ev_ret ?_)
        · rw [show decide (suitOf (rd (sorted l) (i : Int)) = suitOf (rd (sorted l) 0)) = true from decide_eq_true h, show decide (rd (sorted l) (i : Int) = wrap64 (rd (sorted l) 0 + (i : Int))) = true from decide_eq_true h2]
          simp only [Bool.true_and]
          rfl
        · rw [show decide (rd (sorted l) (i : Int) = wrap64 (rd (sorted l) 0 + (i : Int))) = false from decide_eq_false h2]; simp
      · rw [show decide (suitOf (rd (sorted l) (i : Int)) = suitOf (rd (sorted l) 0)) = false from decide_eq_false h]; simp
  have j0 : ∀ b, Ev (fun k => impl_IsRunMeld.j0 k l b) (!b && allFrom (sorted l).length 0 (chainB (sorted l))) := by
    intro b
    refine ev_unfold (fun k => rfl) ?_
    simp only [impl_IsRunMeld.j0]
    refine ev_ite (fun h => ?_) (fun h => ?_)
    · rw [h]; exact Ev.now _
    · rw [Bool.not_eq_true] at h; rw [h]
      exact Ev.bind (impl_Sorted_ev l hl) (ev_done l0 (by simp))
  simp only [impl_IsRunMeld.f]
  unfold runMeld
  refine Ev.bind (impl_IsHand_ev l hl) (ev_ite (fun h => ev_done (j0 _) ?_) (fun h => ev_done (j0 _) ?_))
  · rw [h, Bool.true_and]
    congr 1
    by_cases h3 : 3 ≤ l.length
    · rw [show decide ((l.length : Int) < 3) = false from decide_eq_false (by omega), show decide (3 ≤ l.length) = true from decide_eq_true h3]; rfl
    · rw [show decide ((l.length : Int) < 3) = true from decide_eq_true (by omega), show decide (3 ≤ l.length) = false from decide_eq_false h3]; rfl
  · rw [Bool.not_eq_true] at h; rw [h]; rfl

theorem impl_isBefore_ev (a b : List Int) (ha : a.length ≤ 1048576000) : Ev (fun k => impl_isBefore.f k a b) (before a b) := by
  have key : ∀ (d i : Nat), i + d = a.length → i ≤ b.length → Ev (fun k => impl_isBefore.l0 k a b (a.length : Int) (i : Int)) (before (a.drop i) (b.drop i)) := by
    intro d
    induction d with
    | zero =>
      intro i hd hb
      refine ev_unfold (fun k => rfl) ?_
      simp only [impl_isBefore.l0]
      refine ev_neg (by omega) (ev_ret ?_)
      have e : a.drop i = [] := List.drop_of_length_le (by omega)
      rw [before_end (.inl e), List.length_drop, List.length_drop]
      exact decide_eq_decide.2 (by omega)
    | succ d ih =>
      intro i hd hb
      refine ev_unfold (fun k => rfl) ?_
      simp only [impl_isBefore.l0]
      refine ev_pos (by omega) (ev_ite (fun h => ?_) (fun h => ?_))
      · have e : b.drop i = [] := List.drop_of_length_le (by omega)
        refine ev_ret ?_
        rw [before_end (.inr e), List.length_drop, List.length_drop]
        exact (decide_eq_false (by omega)).symm
      · have hb2 : i < b.length := by omega
        rw [w64next i (by omega), rd_at a i (by omega), rd_at b i hb2, List.drop_eq_getElem_cons (by omega : i < a.length), List.drop_eq_getElem_cons hb2]
        refine ev_pos (by omega) (ev_pos (by omega) (ev_pos (by omega) ?_))
        unfold before
        refine ev_ite (fun h2 => ?_) (fun h2 => ?_)
        · rw [if_pos h2]; exact ih (i + 1) (by omega) (by omega)
        · rw [if_neg h2]; exact Ev.now _
  simp only [impl_isBefore.f]
  exact key a.length 0 (by omega) (by omega)

theorem not_of {b : Bool} (h : (!b) = true) : ¬ b = true := by cases b <;> simp_all
theorem of_not {b : Bool} (h : ¬ (!b) = true) : b = true := by cases b <;> simp_all
theorem impl_MeldsIn_put (s l0 : List Int) (o : List (List Int)) (x : List Int) (N : Int) (m : Nat) (hm : m ≤ 4096) (ho : o.length ≤ 1048576) (hx : x.length ≤ 1048576) {R : List (List Int)}
    (h : Ev (fun k => impl_MeldsIn.l0 k s (putR o x) N ((m + 1 : Nat) : Int)) R) : Ev (fun k => impl_MeldsIn.l2 k s o x (o.length : Int) N (m : Int)) R := by
  have fin : ∀ q : Nat, q ≤ o.length → insAt o q x = putR o x → Ev (fun k => if o.length < 5864062014805 then ((some (o ++ [[]] : List (List Int))).bind fun y264 => (if 0 ≤ (q : Int) then (if (q : Int) < (y264.length : Int) then (impl_MeldsIn.l0 k s ((Arr.shifted y264 (q : Int).toNat).set (q : Int).toNat x) N (wrap64 ((m : Int) + 1))) else (none)) else (none))) else (none)) R := by
    intro q hq e
    refine ev_pos (by omega) ?_
    simp only [Option.bind_some]
    rw [w64next m (by omega), Int.toNat_natCast, shift_set o [] x q hq, e]
    exact ev_pos (by omega) (ev_pos (by simp; omega) h)
  have key : ∀ q : Nat, q ≤ o.length → insAt o (backR o x q) x = putR o x → Ev (fun k => impl_MeldsIn.l2 k s o x (q : Int) N (m : Int)) R := by
    intro q
    induction q with
    | zero =>
      intro hq e
      refine ev_unfold (fun k => rfl) ?_
      simp only [impl_MeldsIn.l2]
      exact ev_neg (by omega) (fin 0 (by omega) e)
    | succ q ih =>
      intro hq e
      refine ev_unfold (fun k => rfl) ?_
      simp only [impl_MeldsIn.l2]
      have e1 : wrap64 (((q + 1 : Nat) : Int) - 1) = (q : Int) := by rw [w64 _ (by omega)]; omega
      rw [e1, rdss_at o q (by omega)]
      refine ev_pos (by omega) (ev_pos (by omega) (ev_pos (by omega) (Ev.bind (impl_isBefore_ev x o[q] (by omega)) ?_)))
      unfold backR at e
      rw [getD_at o q [] (by omega)] at e
      refine ev_ite (fun h => ?_) (fun h => ?_)
      · rw [if_pos h] at e; exact ih (by omega) e
      · rw [if_neg h] at e; exact fin (q + 1) hq e
  exact key o.length (Nat.le_refl _) rfl
theorem impl_MeldsIn_in (s : List Int) (o : List (List Int)) (N : Int) (m : Nat) (hm : m ≤ 4096) (hs : s.length ≤ 12) (ho : o.length ≤ 1048576) {R : List (List Int)}
    (h : Ev (fun k => impl_MeldsIn.l0 k s (if (setMeld (selB s m) || runMeld (selB s m)) = true then putR o (selB s m) else o) N ((m + 1 : Nat) : Int)) R) :
    Ev (fun k => impl_MeldsIn.l1 k s o (m : Int) [] N (m : Int) s (s.length : Int) 0) R := by
  have key : ∀ (d i : Nat) (x : List Int), i + d = s.length → x.length ≤ i → x ++ pickF (m : Int) i (s.drop i) = selB s m → Ev (fun k => impl_MeldsIn.l1 k s o (m : Int) x N (m : Int) s (s.length : Int) (i : Int)) R := by
    intro d
    induction d with
    | zero =>
      intro i x hd hx e
      refine ev_unfold (fun k => rfl) ?_
      simp only [impl_MeldsIn.l1]
      rw [List.drop_of_length_le (by omega), show pickF (m : Int) i [] = [] from rfl, List.append_nil] at e
      rw [← e] at h
      have j3 : ∀ b : Bool, b = !(setMeld x || runMeld x) → Ev (fun k => impl_MeldsIn.j3 k s o x N (m : Int) b) R := by
        intro b hb
        refine ev_unfold (fun k => rfl) ?_
        simp only [impl_MeldsIn.j3]
        refine ev_ite (fun g => ?_) (fun g => ?_)
        · rw [if_neg (not_of (hb ▸ g))] at h
          rw [w64next m (by omega)]; exact h
        · rw [if_pos (of_not (hb ▸ g))] at h
          exact impl_MeldsIn_put s [] o x N m hm ho (by omega) h
      refine ev_neg (by omega) (Ev.bind (impl_IsSetMeld_ev x (by omega)) (ev_ite (fun g => ?_) (fun g => ?_)))
      · exact j3 _ (by rw [g]; rfl)
      · refine Ev.bind (impl_IsRunMeld_ev x (by omega)) (j3 _ ?_)
        rw [Bool.eq_false_iff.2 g]; rfl
    | succ d ih =>
      intro i x hd hx e
      refine ev_unfold (fun k => rfl) ?_
      simp only [impl_MeldsIn.l1]
      rw [w64next i (by omega), rd_at s i (by omega)]
      rw [List.drop_eq_getElem_cons (by omega : i < s.length)] at e
      unfold pickF at e
      refine ev_pos (by omega) (ev_pos (by omega) (ev_pos (by omega) (ev_ite (fun h1 => ev_pos (by omega) (ih (i + 1) _ (by omega) (by simp; omega) ?_)) (fun h1 => ih (i + 1) _ (by omega) (by omega) ?_))))
      · rw [if_pos (show bitOf (m : Int) i = true from decide_eq_true h1)] at e
        rw [List.append_assoc]; exact e
      · rw [if_neg (show ¬ bitOf (m : Int) i = true from fun z => h1 (of_decide_eq_true z))] at e
        exact e
  refine key s.length 0 [] (by omega) (Nat.le_refl _) ?_
  rw [List.nil_append, List.drop_zero, pickF_sel m (by omega) s 0 (by omega), Nat.pow_zero, Nat.div_one]
theorem impl_MeldsIn_ev (l : List Int) (hl : l.length ≤ 1048576000) : Ev (fun k => impl_MeldsIn.f k l) (meldsIn l) := by
  have loop : ∀ (s : List Int), s.length ≤ 12 → ∀ (d m : Nat) (o : List (List Int)), m + d = 2 ^ s.length → o.length ≤ m → Ev (fun k => impl_MeldsIn.l0 k s o ((2 ^ s.length : Nat) : Int) (m : Int)) (putAll o (((List.range' m d).map (selB s)).filter (fun x => setMeld x || runMeld x))) := by
    intro s hs d
    have h2 : 2 ^ s.length ≤ 4096 := Nat.pow_le_pow_right (by omega) hs
    induction d with
    | zero =>
      intro m o hd ho
      refine ev_unfold (fun k => rfl) ?_
      simp only [impl_MeldsIn.l0]
      exact ev_neg (by omega) (Ev.now _)
    | succ d ih =>
      intro m o hd ho
      refine ev_unfold (fun k => rfl) ?_
      simp only [impl_MeldsIn.l0]
      refine ev_pos (by omega) (impl_MeldsIn_in s o _ m (by omega) hs (by omega) ?_)
      rw [List.range'_succ, List.map_cons, List.filter_cons]
      by_cases g : (setMeld (selB s m) || runMeld (selB s m)) = true
      · rw [if_pos g, if_pos g]
        exact ih (m + 1) _ (by omega) (by rw [putR_length]; omega)
      · rw [if_neg g, if_neg g]
        exact ih (m + 1) _ (by omega) (by omega)
  have j0 : ∀ b : Bool, b = !(okM l) → Ev (fun k => impl_MeldsIn.j0 k l b) (meldsIn l) := by
    intro b hb
    refine ev_unfold (fun k => rfl) ?_
    simp only [impl_MeldsIn.j0]
    unfold meldsIn
    refine ev_ite (fun h => ?_) (fun h => ?_)
    · rw [if_neg (not_of (hb ▸ h))]
      exact Ev.now _
    · have hg : okM l = true := of_not (hb ▸ h)
      rw [if_pos hg]
      have h12 : l.length ≤ 12 := by unfold okM at hg; rw [Bool.and_eq_true, decide_eq_true_eq] at hg; exact hg.2
      have sl := sorted_length l
      refine Ev.bind (impl_Sorted_ev l hl) ?_
      have e : shl .i64 1 ((sorted l).length : Int) = ((2 ^ (sorted l).length : Nat) : Int) := by
        unfold shl
        have h2 : 2 ^ (sorted l).length ≤ 4096 := Nat.pow_le_pow_right (by omega) (show (sorted l).length ≤ 12 by omega)
        have hb : IntKind.i64.bits = 64 := rfl
        rw [hb, Int.toNat_natCast, Nat.min_eq_left (by omega), i64_w, Int.one_mul, show ((2 : Int) ^ (sorted l).length) = ((2 ^ (sorted l).length : Nat) : Int) by simp]
        generalize 2 ^ (sorted l).length = p at h2 ⊢
        exact w64 _ (by omega)
      rw [e]
      have := loop (sorted l) (by omega) (2 ^ (sorted l).length) 0 [] (by omega) (Nat.zero_le _)
      rw [← List.range_eq_range'] at this
      exact this
  simp only [impl_MeldsIn.f]
  refine Ev.bind (impl_IsHand_ev l hl) (ev_ite (fun h => j0 _ ?_) (fun h => j0 _ ?_))
  · unfold okM
    rw [h, Bool.true_and]
    by_cases g : l.length ≤ 12
    · rw [decide_eq_true g]; exact decide_eq_false (by omega)
    · rw [decide_eq_false g]; exact decide_eq_true (by omega)
  · unfold okM
    rw [Bool.eq_false_iff.2 h]; rfl

theorem laws_contains_ev (l : List Int) (c : Int) (hl : l.length ≤ 1048576000) : Ev (fun k => laws_contains.f k l c) (decide (c ∈ l)) := by
  simp only [laws_contains.f]
  refine ev_done (ev_loop (fun k (_ : Unit) i => laws_contains.l0 k l c i) l (fun _ r => decide (c ∈ r)) (fun _ _ => True) ?_ ?_ () 0 (by omega) trivial) (by simp)
  · rintro s _
    refine ev_unfold (fun k => rfl) ?_
    simp only [laws_contains.l0]
    exact ev_neg (by omega) (ev_ret (by simp))
  · rintro s i hi _ ih
    refine ev_unfold (fun k => rfl) ?_
    simp only [laws_contains.l0]
    rw [w64next i (by omega), rd_at l i hi]
    refine ev_pos (by omega) (ev_pos (by omega) (ev_ite (fun h => ev_ret ?_) (fun h => ev_done (ih () trivial) ?_)))
    · rw [h]; simp
    · refine decide_eq_decide.2 ⟨fun h2 => List.mem_cons_of_mem _ h2, fun h2 => (List.mem_cons.1 h2).resolve_left (fun e => h e.symm)⟩

theorem laws_within_ev (a l : List Int) (ha : a.length ≤ 1048576000) (hl : l.length ≤ 1048576000) : Ev (fun k => laws_within.f k a l) (decide (∀ y ∈ a, y ∈ l)) := by
  simp only [laws_within.f]
  refine ev_done (ev_loop (fun k (_ : Unit) i => laws_within.l0 k a l i) a (fun _ r => decide (∀ y ∈ r, y ∈ l)) (fun _ _ => True) ?_ ?_ () 0 (by omega) trivial) (by simp)
  · rintro s _
    refine ev_unfold (fun k => rfl) ?_
    simp only [laws_within.l0]
    exact ev_neg (by omega) (ev_ret (by simp))
  · rintro s i hi _ ih
    refine ev_unfold (fun k => rfl) ?_
    simp only [laws_within.l0]
    rw [w64next i (by omega), rd_at a i hi]
    refine ev_pos (by omega) (ev_pos (by omega) (Ev.bind (laws_contains_ev l _ hl) (ev_ite (fun h => ev_done (ih () trivial) ?_) (fun h => ev_ret ?_))))
    · have h2 := of_decide_eq_true h
      exact decide_eq_decide.2 ⟨fun g y hy => (List.mem_cons.1 hy).elim (fun e => e ▸ h2) (g y), fun g y hy => g y (List.mem_cons_of_mem _ hy)⟩
    · exact (decide_eq_false (fun g => h (decide_eq_true (g _ List.mem_cons_self)))).symm

theorem laws_ascends_ev (l : List Int) (hl : l.length ≤ 1048576000) : Ev (fun k => laws_ascends.f k l) (ascB l) := by
  have key : ∀ (d i : Nat), 1 ≤ i → l.length ≤ i + d → Ev (fun k => laws_ascends.l0 k l (i : Int)) (ascFrom l i) := by
    intro d
    induction d with
    | zero =>
      intro i h1 hd
      refine ev_unfold (fun k => rfl) ?_
      simp only [laws_ascends.l0]
      refine ev_neg (by omega) (ev_ret ?_)
      exact (ascFrom_end (by omega)).symm
    | succ d ih =>
      intro i h1 hd
      refine ev_unfold (fun k => rfl) ?_
      simp only [laws_ascends.l0]
      refine ev_ite (fun h => ?_) (fun h => ev_ret (ascFrom_end (by omega)).symm)
      have hi : i < l.length := by omega
      have e : wrap64 ((i : Int) - 1) = ((i - 1 : Nat) : Int) := by rw [w64 _ (by omega)]; omega
      rw [e, w64next i (by omega), rd_at l i hi, rd_at l (i - 1) (by omega)]
      refine ev_pos (by omega) (ev_pos (by omega) (ev_pos (by omega) (ev_ite (fun h2 => ev_ret ?_) (fun h2 => ?_))))
      · rw [ascFrom_step hi (by omega)]
        rw [decide_eq_false (by omega)]; rfl
      · rw [ascFrom_step hi (by omega), decide_eq_true (by omega), Bool.true_and]
        exact ih (i + 1) (by omega) (by omega)
  simp only [laws_ascends.f]
  exact key l.length 1 (by omega) (by omega)

theorem spec_l1New_ev (l : List Int) (hl : l.length ≤ 140737488351232) : EvP (fun k => spec_l1New.f k l) (fun r => r.1 = l ∧ Cur l r.2.1) := by
  have key : ∀ (d i : Nat) (h : Int), i + d = l.length → EvP (fun k => spec_l1New.l0 k l h (i : Int)) (fun r => r.1 = l ∧ Cur l r.2.1) := by
    intro d
    induction d with
    | zero =>
      intro i h hd
      refine EvP.unfold (fun k => rfl) ?_
      simp only [spec_l1New.l0]
      exact EvP.neg (by omega) (EvP.now ⟨rfl, by unfold Cur; simp only; omega⟩)
    | succ d ih =>
      intro i h hd
      refine EvP.unfold (fun k => rfl) ?_
      simp only [spec_l1New.l0]
      refine EvP.pos (by omega) (EvP.ite (fun _ => EvP.pos (by omega) ?_) (fun _ => EvP.now ⟨rfl, by unfold Cur; simp only; omega⟩))
      rw [w64next i (by omega)]
      exact ih (i + 1) _ (by omega)
  simp only [spec_l1New.f]
  exact key l.length 0 _ (by omega)

theorem spec_l1Byte_ok (b : List Int) (i h : Int) (hc : Cur b i) : OkP (spec_l1Byte.f b i h) (fun r => 0 ≤ r.1 ∧ r.1 ≤ 255 ∧ Cur b r.2.1) := by
  obtain ⟨h0, h1, h2⟩ := hc
  unfold spec_l1Byte.f
  refine OkP.ite (fun h3 => OkP.pos h0 (OkP.now ?_)) (fun h3 => OkP.now ?_)
  · have := and_mask (wrap64 ((Go.bits .and .i64 (Go.bits .xor .i64 ((wrap64 ((wrap64 (h * 6364136223846793005)) + 1442695040888963407)) / 8589934592) ((wrap64 ((wrap64 (h * 6364136223846793005)) + 1442695040888963407)) / 140737488355328)) 255) + (wrap64 (rd b i)))) 255 (by omega)
    refine ⟨this.1, this.2, ?_⟩
    unfold Cur
    simp only
    rw [w64 _ (by omega)]
    omega
  · have := and_mask (Go.bits .xor .i64 ((wrap64 ((wrap64 (h * 6364136223846793005)) + 1442695040888963407)) / 8589934592) ((wrap64 ((wrap64 (h * 6364136223846793005)) + 1442695040888963407)) / 140737488355328)) 255 (by omega)
    exact ⟨this.1, this.2, h0, h1, h2⟩

theorem spec_l1Below_ok (b : List Int) (i h n : Int) (hc : Cur b i) (hn : n ≤ 1000000000) : OkP (spec_l1Below.f b i h n) (fun r => 0 ≤ r.1 ∧ (0 < n → r.1 < n) ∧ (n ≤ 0 → r.1 = 0) ∧ Cur b r.2.1) := by
  unfold spec_l1Below.f
  refine OkP.ite (fun h1 => OkP.now ⟨Int.le_refl 0, fun h => absurd h (by omega), fun _ => rfl, hc⟩) (fun h1 => OkP.ite (fun h2 => ?_) (fun h2 => ?_))
  · refine (spec_l1Byte_ok b i h hc).bind (fun r hr => OkP.neg (by omega) (OkP.now ?_))
    have := tmod_range (x := r.1) (n := n) hr.1 (by omega)
    exact ⟨this.1, fun _ => this.2, fun h => absurd h h1, hr.2.2⟩
  · refine (spec_l1Byte_ok b i h hc).bind (fun r hr => (spec_l1Byte_ok b _ _ hr.2.2).bind (fun s hs => (spec_l1Byte_ok b _ _ hs.2.2).bind (fun t ht => OkP.neg (by omega) (OkP.now ?_))))
    have e : wrap64 ((wrap64 ((wrap64 (r.1 * 65536)) + (wrap64 (s.1 * 256)))) + t.1) = r.1 * 65536 + s.1 * 256 + t.1 := by
      rw [w64 (r.1 * 65536) (by omega), w64 (s.1 * 256) (by omega), w64 (r.1 * 65536 + s.1 * 256) (by omega), w64 _ (by omega)]
    simp only
    rw [e]
    have := tmod_range (x := r.1 * 65536 + s.1 * 256 + t.1) (n := n) (by omega) (by omega)
    exact ⟨this.1, fun _ => this.2, fun h => absurd h h1, ht.2.2⟩

theorem spec_l1Once_ok (b : List Int) (i h n : Int) (hc : Cur b i) (hn : n ≤ 1000000000) : OkP (spec_l1Once.f b i h n) (fun r => Cur b r.2.1) := by
  unfold spec_l1Once.f
  exact (spec_l1Below_ok b i h n hc hn).bind (fun r hr => OkP.now hr.2.2.2)

theorem spec_l1Int_ok (b : List Int) (i h : Int) (l : List Int) (hc : Cur b i) (h0 : 0 < l.length) (hl : l.length ≤ 1000000000) : OkP (spec_l1Int.f b i h l) (fun r => r.1 ∈ l ∧ Cur b r.2.1) := by
  unfold spec_l1Int.f
  refine (spec_l1Below_ok b i h (l.length : Int) hc (by omega)).bind (fun r hr => OkP.pos hr.1 (OkP.pos (hr.2.1 (by omega)) (OkP.now ⟨?_, hr.2.2.2⟩)))
  obtain ⟨j, hj⟩ : ∃ j : Nat, r.1 = (j : Int) := ⟨r.1.toNat, by have := hr.1; omega⟩
  have hj2 : j < l.length := by have := hr.2.1 (by omega); omega
  simp only
  rw [hj, rd_at l j hj2]
  exact List.getElem_mem hj2

theorem spec_HasCard_ev (l : List Int) (c : Int) (hl : l.length ≤ 1048576000) : Ev (fun k => spec_HasCard.f k l c) (hasCard l c) := by
  simp only [spec_HasCard.f]
  refine ev_done (ev_loop (fun k (_ : Unit) i => spec_HasCard.l0 k l c i) l (fun _ r => hasCard r c) (fun _ _ => True) ?_ ?_ () 0 (by omega) trivial) rfl
  · rintro s _
    refine ev_unfold (fun k => rfl) ?_
    simp only [spec_HasCard.l0]
    exact ev_neg (by omega) (ev_ret (by simp [hasCard]))
  · rintro s i hi _ ih
    refine ev_unfold (fun k => rfl) ?_
    simp only [spec_HasCard.l0]
    rw [w64next i (by omega), rd_at l i hi]
    refine ev_pos (by omega) (ev_pos (by omega) (ev_ite (fun h => ev_ret ?_) (fun h => ev_done (ih () trivial) ?_)))
    · simp [hasCard, h]
    · have h2 : ¬ c = l[i] := fun e => h e.symm
      simp only [hasCard, List.mem_cons]
      exact decide_eq_decide.2 ⟨fun h => .inr h, fun h => h.resolve_left h2⟩

theorem spec_l5Some_ev (b : List Int) (i h n : Int) (hc : Cur b i) (hn : n ≤ 40) : EvP (fun k => spec_l5Some.f k b i h n) (fun r => r.1.length ≤ 40 ∧ Cur b r.2.1) := by
  -- the search for a card that isn't there ends
  have l1 : ∀ (out : List Int) (j i h : Int), out.length < 52 → (∀ c : Int, EvP (fun k => spec_l5Some.l0 k n (out ++ [c]) (wrap64 (j + 1)) b i h) (fun r => r.1.length ≤ 40 ∧ Cur b r.2.1)) →
      ∀ (d x : Nat), x < 52 → (((x + 7 * d) % 52 : Nat) : Int) ∉ out → EvP (fun k => spec_l5Some.l1 k n out j (x : Int) b i h) (fun r => r.1.length ≤ 40 ∧ Cur b r.2.1) := by
    intro out j i h ho hk d
    induction d with
    | zero =>
      intro x hx hd
      have e : (x + 7 * 0) % 52 = x := by omega
      rw [e] at hd
      refine EvP.unfold (fun k => rfl) ?_
      simp only [spec_l5Some.l1]
      refine EvP.bind (EvP.of (P := fun a => a = hasCard out (x : Int)) (spec_HasCard_ev out (x : Int) (by omega)) rfl) (fun a ha => ?_)
      have : a = false := by rw [ha]; simp [hasCard, hd]
      rw [this]
      exact EvP.neg (by simp) (EvP.pos (by omega) (hk _))
    | succ d ih =>
      intro x hx hd
      refine EvP.unfold (fun k => rfl) ?_
      simp only [spec_l5Some.l1]
      refine EvP.bind (EvP.of (P := fun a => a = hasCard out (x : Int)) (spec_HasCard_ev out (x : Int) (by omega)) rfl) (fun a ha => EvP.ite (fun _ => ?_) (fun _ => EvP.pos (by omega) (hk _)))
      have e : Int.tmod (wrap64 ((x : Int) + 7)) 52 = (((x + 7) % 52 : Nat) : Int) := by
        rw [w64 _ (by omega), Int.tmod_eq_emod_of_nonneg (by omega)]; omega
      rw [e]
      refine ih _ (Nat.mod_lt _ (by omega)) ?_
      have e2 : ((x + 7) % 52 + 7 * d) % 52 = (x + 7 * (d + 1)) % 52 := by omega
      rw [e2]; exact hd
  have l0 : ∀ (d : Nat) (out : List Int) (j i h : Int), 0 ≤ j → (d : Int) = max 0 (n - j) → (out.length : Int) = j → j ≤ max 0 n → Cur b i → EvP (fun k => spec_l5Some.l0 k n out j b i h) (fun r => r.1.length ≤ 40 ∧ Cur b r.2.1) := by
    intro d
    induction d with
    | zero =>
      intro out j i h hj hd ho hj2 hc
      refine EvP.unfold (fun k => rfl) ?_
      simp only [spec_l5Some.l0]
      exact EvP.neg (by omega) (EvP.now ⟨by simp only; omega, hc⟩)
    | succ d ih =>
      intro out j i h hj hd ho hj2 hc
      refine EvP.unfold (fun k => rfl) ?_
      simp only [spec_l5Some.l0]
      refine EvP.pos (by omega) (EvP.bind (spec_l1Below_ok b i h 52 hc (by omega)).ev (fun r hr => ?_))
      have h1 := hr.2.1 (by omega)
      have h0 := hr.1
      obtain ⟨x, hx⟩ : ∃ x : Nat, r.1 = (x : Int) := ⟨r.1.toNat, by omega⟩
      rw [hx]
      have hx2 : x < 52 := by omega
      obtain ⟨q, _, hq⟩ := seven_free out (by omega) x hx2
      refine l1 out j _ _ (by omega) (fun c => ?_) q x hx2 hq
      rw [w64 (j + 1) (by omega)]
      exact ih _ _ _ _ (by omega) (by omega) (by simp; omega) (by omega) hr.2.2.2
  simp only [spec_l5Some.f]
  exact l0 (max 0 n).toNat [] 0 i h (by omega) (by omega) rfl (by omega) hc

theorem spec_l5Any_ev (b : List Int) (i h : Int) (hc : Cur b i) : EvP (fun k => spec_l5Any.f k b i h) (fun r => r.1.length ≤ 40 ∧ Cur b r.2.1) := by
  simp only [spec_l5Any.f]
  refine EvP.bind (spec_l1Below_ok b i h 9 hc (by omega)).ev (fun r hr => ?_)
  have h1 := hr.2.1 (by omega)
  refine EvP.bind (spec_l5Some_ev b _ _ r.1 hr.2.2.2 (by omega)) (fun s hs => EvP.ite (fun hp => ?_) (fun _ => EvP.now hs))
  refine EvP.bind (spec_l1Once_ok b _ _ 10 hs.2 (by omega)).ev (fun t ht => EvP.ite (fun _ => ?_) (fun _ => EvP.now ⟨hs.1, ht⟩))
  have h2 := hs.1
  rw [w64 _ (by omega)]
  refine EvP.pos (by omega) (EvP.pos (by omega) (EvP.bind (spec_l1Int_ok b _ _ [_, 52, -1] ht (by simp) (by simp)).ev (fun u hu => EvP.pos (by omega) (EvP.now ⟨by simp only [List.length_set]; omega, hu.2⟩))))

theorem spec_l10Draw_ev (b : List Int) (i h : Int) (hc : Cur b i) : EvP (fun k => spec_l10Draw.f k b i h) (fun r => r.1.length ≤ 11 ∧ Cur b r.2.1) := by
  have key : ∀ (d : Nat), d ≤ 4 → ∀ (s : List Int) (i h : Int), s.length ≤ 11 → Cur b i → EvP (fun k => spec_l10Draw.l0 k s (d : Int) b i h) (fun r => r.1.length ≤ 11 ∧ Cur b r.2.1) := by
    intro d
    induction d with
    | zero =>
      intro hd s i h hs hc
      refine EvP.unfold (fun k => rfl) ?_
      simp only [spec_l10Draw.l0]
      exact EvP.neg (by omega) (EvP.now ⟨hs, hc⟩)
    | succ d ih =>
      intro hd s i h hs hc
      have l1 : ∀ (e : Nat), e ≤ 10 → ∀ (s : List Int) (x i h : Int), s.length ≤ 11 → Cur b i → EvP (fun k => spec_l10Draw.l1 k s ((d + 1 : Nat) : Int) x (e : Int) b i h) (fun r => r.1.length ≤ 11 ∧ Cur b r.2.1) := by
        intro e
        induction e with
        | zero =>
          intro he s x i h hs hc
          refine EvP.unfold (fun k => rfl) ?_
          simp only [spec_l10Draw.l1]
          rw [show wrap64 (((d + 1 : Nat) : Int) - 1) = (d : Int) by rw [w64 _ (by omega)]; omega]
          exact EvP.neg (by omega) (ih (by omega) s i h hs hc)
        | succ e ihe =>
          intro he s x i h hs hc
          refine EvP.unfold (fun k => rfl) ?_
          simp only [spec_l10Draw.l1]
          rw [show wrap64 (((e + 1 : Nat) : Int) - 1) = (e : Int) by rw [w64 _ (by omega)]; omega]
          refine EvP.pos (by omega) (EvP.bind (EvP.of (P := fun a => a = hasCard s x) (spec_HasCard_ev s x (by omega)) rfl) (fun a ha => EvP.ite (fun _ => ?_) (fun _ => EvP.ite (fun g => EvP.pos (by omega) ?_) (fun _ => ?_))))
          · exact EvP.bind (spec_l1Int_ok b _ _ [1, 1, 13] hc (by simp) (by simp)).ev (fun u hu => ihe (by omega) s _ _ _ hs hu.2)
          · exact EvP.bind (spec_l1Int_ok b _ _ [1, 1, 13] hc (by simp) (by simp)).ev (fun u hu => ihe (by omega) _ _ _ _ (by simp; omega) hu.2)
          · exact EvP.bind (spec_l1Int_ok b _ _ [1, 1, 13] hc (by simp) (by simp)).ev (fun u hu => ihe (by omega) s _ _ _ hs hu.2)
      refine EvP.unfold (fun k => rfl) ?_
      simp only [spec_l10Draw.l0]
      refine EvP.pos (by omega) (EvP.bind (spec_l1Below_ok b i h 52 hc (by omega)).ev (fun r hr => EvP.bind (spec_l1Below_ok b _ _ 2 hr.2.2.2 (by omega)).ev (fun t ht => ?_)))
      have h1 := ht.2.1 (by omega)
      have h0 := ht.1
      have := l1 (3 + t.1).toNat (by omega) s r.1 t.2.1 t.2.2 hs ht.2.2.2
      rw [show (((3 + t.1).toNat : Nat) : Int) = 3 + t.1 by omega] at this
      rw [w64 (3 + t.1) (by omega)]
      exact this
  simp only [spec_l10Draw.f]
  refine EvP.bind (spec_l1Below_ok b i h 4 hc (by omega)).ev (fun r hr => ?_)
  have h1 := hr.2.1 (by omega)
  have h0 := hr.1
  have := key r.1.toNat (by omega) [] r.2.1 r.2.2 (by simp) hr.2.2.2
  rw [show ((r.1.toNat : Nat) : Int) = r.1 by omega] at this
  exact this

theorem spec_l5Some_le (b : List Int) (i h n : Int) (hc : Cur b i) (hn : n ≤ 40) : EvP (fun k => spec_l5Some.f k b i h n) (fun r => (r.1.length : Int) ≤ max 0 n ∧ Cur b r.2.1) := by
  -- the search for a card that isn't there ends
  have l1 : ∀ (out : List Int) (j i h : Int), out.length < 52 → (∀ c : Int, EvP (fun k => spec_l5Some.l0 k n (out ++ [c]) (wrap64 (j + 1)) b i h) (fun r => (r.1.length : Int) ≤ max 0 n ∧ Cur b r.2.1)) →
      ∀ (d x : Nat), x < 52 → (((x + 7 * d) % 52 : Nat) : Int) ∉ out → EvP (fun k => spec_l5Some.l1 k n out j (x : Int) b i h) (fun r => (r.1.length : Int) ≤ max 0 n ∧ Cur b r.2.1) := by
    intro out j i h ho hk d
    induction d with
    | zero =>
      intro x hx hd
      have e : (x + 7 * 0) % 52 = x := by omega
      rw [e] at hd
      refine EvP.unfold (fun k => rfl) ?_
      simp only [spec_l5Some.l1]
      refine EvP.bind (EvP.of (P := fun a => a = hasCard out (x : Int)) (spec_HasCard_ev out (x : Int) (by omega)) rfl) (fun a ha => ?_)
      have : a = false := by rw [ha]; simp [hasCard, hd]
      rw [this]
      exact EvP.neg (by simp) (EvP.pos (by omega) (hk _))
    | succ d ih =>
      intro x hx hd
      refine EvP.unfold (fun k => rfl) ?_
      simp only [spec_l5Some.l1]
      refine EvP.bind (EvP.of (P := fun a => a = hasCard out (x : Int)) (spec_HasCard_ev out (x : Int) (by omega)) rfl) (fun a ha => EvP.ite (fun _ => ?_) (fun _ => EvP.pos (by omega) (hk _)))
      have e : Int.tmod (wrap64 ((x : Int) + 7)) 52 = (((x + 7) % 52 : Nat) : Int) := by
        rw [w64 _ (by omega), Int.tmod_eq_emod_of_nonneg (by omega)]; omega
      rw [e]
      refine ih _ (Nat.mod_lt _ (by omega)) ?_
      have e2 : ((x + 7) % 52 + 7 * d) % 52 = (x + 7 * (d + 1)) % 52 := by omega
      rw [e2]; exact hd
  have l0 : ∀ (d : Nat) (out : List Int) (j i h : Int), 0 ≤ j → (d : Int) = max 0 (n - j) → (out.length : Int) = j → j ≤ max 0 n → Cur b i → EvP (fun k => spec_l5Some.l0 k n out j b i h) (fun r => (r.1.length : Int) ≤ max 0 n ∧ Cur b r.2.1) := by
    intro d
    induction d with
    | zero =>
      intro out j i h hj hd ho hj2 hc
      refine EvP.unfold (fun k => rfl) ?_
      simp only [spec_l5Some.l0]
      exact EvP.neg (by omega) (EvP.now ⟨by simp only; omega, hc⟩)
    | succ d ih =>
      intro out j i h hj hd ho hj2 hc
      refine EvP.unfold (fun k => rfl) ?_
      simp only [spec_l5Some.l0]
      refine EvP.pos (by omega) (EvP.bind (spec_l1Below_ok b i h 52 hc (by omega)).ev (fun r hr => ?_))
      have h1 := hr.2.1 (by omega)
      have h0 := hr.1
      obtain ⟨x, hx⟩ : ∃ x : Nat, r.1 = (x : Int) := ⟨r.1.toNat, by omega⟩
      rw [hx]
      have hx2 : x < 52 := by omega
      obtain ⟨q, _, hq⟩ := seven_free out (by omega) x hx2
      refine l1 out j _ _ (by omega) (fun c => ?_) q x hx2 hq
      rw [w64 (j + 1) (by omega)]
      exact ih _ _ _ _ (by omega) (by omega) (by simp; omega) (by omega) hr.2.2.2
  simp only [spec_l5Some.f]
  exact l0 (max 0 n).toNat [] 0 i h (by omega) (by omega) rfl (by omega) hc
theorem spec_l5Any_le (b : List Int) (i h : Int) (hc : Cur b i) : EvP (fun k => spec_l5Any.f k b i h) (fun r => r.1.length ≤ 8 ∧ Cur b r.2.1) := by
  simp only [spec_l5Any.f]
  refine EvP.bind (spec_l1Below_ok b i h 9 hc (by omega)).ev (fun r hr => ?_)
  have h1 := hr.2.1 (by omega)
  have h0 := hr.1
  refine EvP.bind (spec_l5Some_le b _ _ r.1 hr.2.2.2 (by omega)) (fun s hs => ?_)
  have h2 : s.1.length ≤ 8 := by have := hs.1; omega
  refine EvP.ite (fun hp => ?_) (fun _ => EvP.now ⟨h2, hs.2⟩)
  refine EvP.bind (spec_l1Once_ok b _ _ 10 hs.2 (by omega)).ev (fun t ht => EvP.ite (fun _ => ?_) (fun _ => EvP.now ⟨h2, ht⟩))
  rw [w64 _ (by omega)]
  refine EvP.pos (by omega) (EvP.pos (by omega) (EvP.bind (spec_l1Int_ok b _ _ [_, 52, -1] ht (by simp) (by simp)).ev (fun u hu => EvP.pos (by omega) (EvP.now ⟨by simp only [List.length_set]; omega, hu.2⟩))))
theorem spec_DrawMeldsIn_ev (l : List Int) (hl : l.length ≤ 140737488351232) : EvP (fun k => spec_DrawMeldsIn.f k l) (fun r => r.length ≤ 40) := by
  simp only [spec_DrawMeldsIn.f]
  refine EvP.bind (spec_l1New_ev l hl) (fun b hb => ?_)
  rw [hb.1]
  refine EvP.bind (spec_l1Once_ok l _ _ 9 hb.2 (by omega)).ev (fun t ht => EvP.ite (fun _ => ?_) (fun _ => ?_))
  · exact EvP.bind (spec_l5Any_ev l _ _ ht) (fun r hr => EvP.now (by have := hr.1; omega))
  · exact EvP.bind (spec_l10Draw_ev l _ _ ht) (fun r hr => EvP.now (by have := hr.1; omega))

theorem spec_DrawLeftOver_ev (l : List Int) (hl : l.length ≤ 140737488351232) : EvP (fun k => spec_DrawLeftOver.f k l) (fun r => r.length ≤ 40) := by
  simp only [spec_DrawLeftOver.f]
  exact EvP.bind (spec_DrawMeldsIn_ev l hl) (fun r hr => EvP.now hr)

theorem impl_PlaceOf_ev (l : List Int) (c : Int) (hl : l.length ≤ 1048576000) : Ev (fun k => impl_PlaceOf.f k l c) (placeOf l c) := by
  simp only [impl_PlaceOf.f]
  refine ev_loopN (fun k (_ : Unit) i => impl_PlaceOf.l0 k c l (l.length : Int) i) l.length (fun _ i => placeF c i (l.drop i)) (fun _ _ => True) ?_ ?_ () 0 (by omega) trivial
  · rintro s _
    refine ev_unfold (fun k => rfl) ?_
    simp only [impl_PlaceOf.l0]
    refine ev_neg (by omega) (ev_ret ?_)
    rw [drop_end]; rfl
  · rintro s i hi _ ih
    refine ev_unfold (fun k => rfl) ?_
    simp only [impl_PlaceOf.l0]
    refine ev_pos (by omega) (ev_pos (by omega) (ev_pos (by omega) ?_))
    rw [w64next i (by omega), rd_at l i hi, drop_at l i hi]
    unfold placeF
    refine ev_ite (fun h => ev_ret ?_) (fun h => ev_done (ih () trivial) ?_)
    · rw [if_pos h]
    · rw [if_neg h]; congr 1

theorem impl_HasCard_ev (l : List Int) (c : Int) (hl : l.length ≤ 1048576000) : Ev (fun k => impl_HasCard.f k l c) (hasCard l c) := by
  simp only [impl_HasCard.f]
  refine Ev.bind (impl_PlaceOf_ev l c hl) (ev_ret ?_)
  unfold hasCard
  exact decide_eq_decide.2 (placeOf_nonneg l c)

theorem impl_ValueOf_eq (c : Int) : impl_ValueOf.f c = some (valueOf c) := by
  unfold impl_ValueOf.f valueOf
  rw [impl_RankOf_eq]
  have hr := rankOf_range c
  simp only [Option.bind_some]
  rw [w64 (rankOf c + 2) (by omega)]
  repeat' split
  all_goals first | rfl | omega

theorem impl_values_ev (l : List Int) (hl : l.length ≤ 1048576000) : Ev (fun k => impl_values.f k l) (valW 0 l) := by
  simp only [impl_values.f]
  refine ev_done (ev_loop (fun k (s : Int) i => impl_values.l0 k s l (l.length : Int) i) l (fun s r => valW s r) (fun _ _ => True) ?_ ?_ 0 0 (by omega) trivial) rfl
  · rintro s _
    refine ev_unfold (fun k => rfl) ?_
    simp only [impl_values.l0]
    exact ev_neg (by omega) (ev_ret rfl)
  · rintro s i hi _ ih
    refine ev_unfold (fun k => rfl) ?_
    simp only [impl_values.l0, impl_ValueOf_eq, Option.bind_some]
    rw [w64next i (by omega), rd_at l i hi]
    exact ev_pos (by omega) (ev_pos (by omega) (ev_pos (by omega) (ih _ trivial)))

theorem impl_Without_ev (l : List Int) (c : Int) (hl : l.length ≤ 1048576000) : Ev (fun k => impl_Without.f k l c) (l.filter (fun y => decide (y ≠ c))) := by
  simp only [impl_Without.f]
  refine ev_done (ev_loop (fun k (s : List Int) i => impl_Without.l0 k c s l (l.length : Int) i) l (fun s r => s ++ r.filter (fun y => decide (y ≠ c))) (fun s i => s.length ≤ i) ?_ ?_ [] 0 (by omega) (Nat.le_refl _)) (by simp)
  · rintro s _
    refine ev_unfold (fun k => rfl) ?_
    simp only [impl_Without.l0]
    exact ev_neg (by omega) (ev_ret (by simp))
  · rintro s i hi hs ih
    refine ev_unfold (fun k => rfl) ?_
    simp only [impl_Without.l0]
    rw [w64next i (by omega), rd_at l i hi]
    refine ev_pos (by omega) (ev_pos (by omega) (ev_pos (by omega) (ev_ite (fun h => ?_) (fun h => ev_pos (by omega) ?_))))
    · refine ev_done (ih s (by omega)) ?_
      rw [List.filter_cons, if_neg (by simpa using h)]
    · refine ev_done (ih (s ++ [l[i]]) (by simp; omega)) ?_
      rw [List.filter_cons, if_pos (decide_eq_true h), List.append_assoc]; rfl

theorem impl_LeftOver_1_ev (M : List (List Int)) (hM : M.length ≤ 1048576000) (hm : ∀ m ∈ M, m.length ≤ 1048576000) : ∀ (d i : Nat), i + d = M.length → ∀ (l : List Int) (o : Int), l.length ≤ 1048576000 → Ev (fun k => impl_LeftOver_1.l0 k l M o (i : Int)) (leastF (M.drop i) l o) := by
  intro d
  induction d with
  | zero =>
    intro i hd l o hl
    refine ev_unfold (fun k => rfl) ?_
    simp only [impl_LeftOver_1.l0]
    rw [List.drop_of_length_le (by omega)]
    exact ev_neg (by omega) (Ev.now _)
  | succ d ih =>
    intro i hd l o hl
    have hi : i < M.length := by omega
    refine ev_unfold (fun k => rfl) ?_
    simp only [impl_LeftOver_1.l0]
    rw [rdss_at M i hi, List.drop_eq_getElem_cons hi]
    have g2 := hm _ (List.getElem_mem hi)
    refine ev_pos (by omega) (ev_pos (by omega) ?_)
    have key : ∀ (e j : Nat) (s : List Int) (b : Bool), j + e = M[i].length → s.length ≤ 1048576000 → Ev (fun k => impl_LeftOver_1.l1 k l M o (i : Int) s b M[i] (M[i].length : Int) (j : Int)) (leastF (M.drop (i + 1)) l (if (b && wholeF s (M[i].drop j)) = true then min o (leastF (M.drop (i + 1)) (minusF s (M[i].drop j)) (valW 0 (minusF s (M[i].drop j)))) else o)) := by
      intro e
      induction e with
      | zero =>
        intro j s b hj hs
        refine ev_unfold (fun k => rfl) ?_
        simp only [impl_LeftOver_1.l1]
        rw [w64next i (by omega), List.drop_of_length_le (by omega : M[i].length ≤ j), show wholeF s [] = true from rfl, Bool.and_true, show minusF s [] = s from rfl]
        refine ev_neg (by omega) (ev_ite (fun h => ?_) (fun h => ?_))
        · rw [if_pos h]
          refine Ev.bind (ev_unfold (fun k => rfl) (f := fun k => (impl_values.f k s).bind fun t142 => (impl_LeftOver_1.l0 k s M t142 ((i + 1 : Nat) : Int))) (Ev.bind (impl_values_ev s hs) (ih (i + 1) (by omega) _ _ hs))) ?_
          rw [show mn o (leastF (M.drop (i + 1)) s (valW 0 s)) = min o (leastF (M.drop (i + 1)) s (valW 0 s)) by unfold mn; omega]
          exact ih (i + 1) (by omega) l _ hl
        · rw [if_neg h]
          exact ih (i + 1) (by omega) l o hl
      | succ e ihe =>
        intro j s b hj hs
        have hjl : j < M[i].length := by omega
        have hf := Nat.le_trans (List.length_filter_le (fun y => decide (y ≠ M[i][j])) s) hs
        refine ev_unfold (fun k => rfl) ?_
        simp only [impl_LeftOver_1.l1]
        rw [w64next j (by omega), rd_at M[i] j hjl, List.drop_eq_getElem_cons hjl, show minusF s (M[i][j] :: M[i].drop (j + 1)) = minusF (s.filter (fun y => decide (y ≠ M[i][j]))) (M[i].drop (j + 1)) from rfl]
        unfold wholeF
        refine ev_pos (by omega) (ev_pos (by omega) (ev_pos (by omega) (ev_ite (fun h => ?_) (fun h => ?_))))
        · subst h
          refine Ev.bind (impl_HasCard_ev s _ hs) (Ev.bind (impl_Without_ev s _ hs) ?_)
          rw [Bool.true_and]
          exact ihe (j + 1) _ _ (by omega) hf
        · rw [Bool.eq_false_iff.2 h]
          refine Ev.bind (impl_Without_ev s _ hs) ?_
          rw [Bool.false_and, if_neg (by simp)]
          have := ihe (j + 1) (s.filter (fun y => decide (y ≠ M[i][j]))) false (by omega) hf
          rw [Bool.false_and, if_neg (by simp)] at this
          exact this
    unfold leastF
    exact ev_done (key M[i].length 0 l true (by omega) hl) (by rw [List.drop_zero, Bool.true_and])

theorem impl_copyOf_eq (l : List Int) (hl : l.length ≤ 1048576000) : impl_copyOf.f l = some l := by
  unfold impl_copyOf.f
  simp only [Option.bind_some, List.length_nil, List.nil_append]
  rw [if_pos (by omega)]

theorem impl_LeftOver_ev (l : List Int) (hl : l.length ≤ 1048576000) : Ev (fun k => impl_LeftOver.f k l) (leftOver l) := by
  have j0 : ∀ b : Bool, b = !(okM l) → Ev (fun k => impl_LeftOver.j0 k l b) (leftOver l) := by
    intro b hb
    refine ev_unfold (fun k => rfl) ?_
    simp only [impl_LeftOver.j0, impl_copyOf_eq l hl, Option.bind_some]
    unfold leftOver
    refine ev_ite (fun h => ?_) (fun h => ?_)
    · rw [if_neg (not_of (hb ▸ h))]
      exact Ev.now _
    · have hg : okM l = true := of_not (hb ▸ h)
      rw [if_pos hg]
      have hs := meldsIn_small l
      refine Ev.bind (impl_MeldsIn_ev l hl) (Ev.bind (ev_unfold (fun k => rfl) (f := fun k => (impl_values.f k l).bind fun t142 => (impl_LeftOver_1.l0 k l (meldsIn l) t142 0)) (Ev.bind (impl_values_ev l hl) ?_)) (Ev.now _))
      exact impl_LeftOver_1_ev (meldsIn l) (by omega) (fun m hm => by have := hs.2.2 m hm; omega) (meldsIn l).length 0 (by omega) l _ hl
  simp only [impl_LeftOver.f]
  refine Ev.bind (impl_IsHand_ev l hl) (ev_ite (fun h => j0 _ ?_) (fun h => j0 _ ?_))
  · unfold okM
    rw [h, Bool.true_and]
    by_cases g : l.length ≤ 12
    · rw [decide_eq_true g]; exact decide_eq_false (by omega)
    · rw [decide_eq_false g]; exact decide_eq_true (by omega)
  · unfold okM
    rw [Bool.eq_false_iff.2 h]; rfl

theorem impl_CanGoOut_ev (l : List Int) (hl : l.length ≤ 1048576000) : Ev (fun k => impl_CanGoOut.f k l) (leftOver l == 0) := by
  simp only [impl_CanGoOut.f]
  exact Ev.bind (impl_LeftOver_ev l hl) (Ev.now _)

theorem spec_DrawIsSetMeld_ev (l : List Int) (hl : l.length ≤ 140737488351232) : EvP (fun k => spec_DrawIsSetMeld.f k l) (fun r => r.length ≤ 8) := by
  simp only [spec_DrawIsSetMeld.f, Option.bind_some]
  refine EvP.bind (spec_l1New_ev l hl) (fun b hb => ?_)
  rw [hb.1]
  refine EvP.bind (spec_l1Below_ok l _ _ 13 hb.2 (by omega)).ev (fun r hr => EvP.bind (spec_l1Below_ok l _ _ 5 hr.2.2.2 (by omega)).ev (fun t ht => ?_))
  refine EvP.ite (fun _ => EvP.pos (by simp) (EvP.now (by simp))) (fun _ => EvP.ite (fun _ => ?_) (fun _ => EvP.ite (fun _ => ?_) (fun _ => EvP.now (by simp))))
  · exact EvP.bind (spec_l5Any_le l _ _ ht.2.2.2) (fun s hs => EvP.now hs.1)
  · repeat (first | exact EvP.now (by simp) | refine EvP.pos (by simp) ?_)

theorem spec_DrawIsRunMeld_ev (l : List Int) (hl : l.length ≤ 140737488351232) : EvP (fun k => spec_DrawIsRunMeld.f k l) (fun r => r.length ≤ 8) := by
  simp only [spec_DrawIsRunMeld.f, Option.bind_some]
  refine EvP.bind (spec_l1New_ev l hl) (fun b hb => ?_)
  rw [hb.1]
  refine EvP.bind (spec_l1Below_ok l _ _ 52 hb.2 (by omega)).ev (fun r hr => EvP.bind (spec_l1Below_ok l _ _ 5 hr.2.2.2 (by omega)).ev (fun t ht => ?_))
  refine EvP.ite (fun _ => EvP.pos (by simp) (EvP.now (by simp))) (fun _ => EvP.ite (fun _ => ?_) (fun _ => EvP.ite (fun _ => ?_) (fun _ => EvP.now (by simp))))
  · exact EvP.bind (spec_l5Any_le l _ _ ht.2.2.2) (fun s hs => EvP.now hs.1)
  · repeat (first | exact EvP.now (by simp) | refine EvP.pos (by simp) ?_)

theorem laws_sameInts_ev (a b : List Int) (hl : a.length ≤ 1048576000) : Ev (fun k => laws_sameInts.f k a b) (decide (a = b)) := by
  simp only [laws_sameInts.f]
  refine ev_ite (fun h => ?_) (fun h => ev_ret ?_)
  · have hlen : a.length = b.length := by omega
    have key : ∀ (d i : Nat), i + d = a.length → a.take i = b.take i → Ev (fun k => laws_sameInts.l0 k a b (i : Int)) (decide (a = b)) := by
      intro d
      induction d with
      | zero =>
        intro i hd ht
        refine ev_unfold (fun k => rfl) ?_
        simp only [laws_sameInts.l0]
        refine ev_neg (by omega) (ev_ret ?_)
        rw [List.take_of_length_le (by omega), List.take_of_length_le (by omega)] at ht
        simp [ht]
      | succ d ih =>
        intro i hd ht
        refine ev_unfold (fun k => rfl) ?_
        simp only [laws_sameInts.l0]
        rw [w64next i (by omega), rd_at a i (by omega), rd_at b i (by omega)]
        refine ev_pos (by omega) (ev_pos (by omega) (ev_pos (by omega) (ev_ite (fun h2 => ih (i + 1) (by omega) ?_) (fun h2 => ev_ret ?_))))
        · rw [take_at a i (by omega), take_at b i (by omega), ht, h2]
        · refine (decide_eq_false ?_).symm
          intro e
          subst e
          exact h2 rfl
    exact key a.length 0 (by omega) (by simp)
  · exact (decide_eq_false (fun e => h (by rw [e]))).symm

theorem laws_found_ev (M : List (List Int)) (x : List Int) (hM : M.length ≤ 1048576000) (hm : ∀ m ∈ M, m.length ≤ 1048576000) : Ev (fun k => laws_found.f k M x) (decide (x ∈ M)) := by
  simp only [laws_found.f]
  refine ev_done (ev_loop (fun k (_ : Unit) i => laws_found.l0 k M x i) M (fun _ r => decide (x ∈ r)) (fun _ _ => True) ?_ ?_ () 0 (by omega) trivial) (by simp)
  · rintro s _
    refine ev_unfold (fun k => rfl) ?_
    simp only [laws_found.l0]
    exact ev_neg (by omega) (ev_ret (by simp))
  · rintro s i hi _ ih
    refine ev_unfold (fun k => rfl) ?_
    simp only [laws_found.l0]
    rw [w64next i (by omega), rdss_at M i hi]
    refine ev_pos (by omega) (ev_pos (by omega) (Ev.bind (laws_sameInts_ev M[i] x (hm _ (List.getElem_mem hi))) (ev_ite (fun h => ev_ret ?_) (fun h => ev_done (ih () trivial) ?_))))
    · have h2 := of_decide_eq_true h
      exact (decide_eq_true (h2 ▸ List.mem_cons_self)).symm
    · exact decide_eq_decide.2 ⟨fun g => List.mem_cons_of_mem _ g, fun g => (List.mem_cons.1 g).resolve_left (fun e => h (decide_eq_true e.symm))⟩

theorem FnMelds_end (w : List Int) (hw : w.length ≤ 1048576) : Ev (fun k => laws_FnMelds.j4 k w false) true := by
  refine ev_unfold (fun k => rfl) ?_
  simp only [laws_FnMelds.j4]
  refine ev_neg (by simp) ?_
  obtain ⟨a, ea, ha⟩ := spec_DrawIsSetMeld_ev w (by omega)
  obtain ⟨b, eb, hb⟩ := spec_DrawIsRunMeld_ev w (by omega)
  have sa := meldsIn_small a
  have sb := meldsIn_small b
  have run : Ev (fun k => (impl_MeldsIn.f k b).bind fun t354 => ((impl_Sorted.f k b).bind fun t357 => ((laws_found.f k t354 t357).bind fun t360 => (some t360)))) (decide (sorted b ∈ meldsIn b)) :=
    Ev.bind (impl_MeldsIn_ev b (by omega)) (Ev.bind (impl_Sorted_ev b (by omega)) (Ev.bind (laws_found_ev _ _ (by omega) (fun m hm => by have := sb.2.2 m hm; omega)) (Ev.now _)))
  refine Ev.bind ea (Ev.bind eb (Ev.bind (impl_IsSetMeld_ev a (by omega)) (ev_ite (fun h => ?_) (fun h => ?_))))
  · refine Ev.bind (impl_MeldsIn_ev a (by omega)) (Ev.bind (impl_Sorted_ev a (by omega)) (Ev.bind (laws_found_ev _ _ (by omega) (fun m hm => by have := sa.2.2 m hm; omega)) (ev_pos (decide_eq_true (set_found h)) ?_)))
    refine Ev.bind (impl_IsRunMeld_ev b (by omega)) (ev_ite (fun g => ?_) (fun g => Ev.now _))
    exact ev_done run (decide_eq_true (run_found g (by omega)))
  · refine Ev.bind (impl_IsRunMeld_ev b (by omega)) (ev_ite (fun g => ?_) (fun g => Ev.now _))
    exact ev_done run (decide_eq_true (run_found g (by omega)))
theorem FnMelds_all (w l : List Int) (hw : w.length ≤ 1048576) (hl : l.length ≤ 40) : Ev (fun k => laws_FnMelds.l2 k w l (meldsIn l) (leftOver l) 0 0) true := by
  refine ev_done (ev_loop (fun k (s : Int) i => laws_FnMelds.l2 k w l (meldsIn l) (leftOver l) s i) l (fun _ _ => true) (fun s i => valW s (l.drop i) = valW 0 l) ?_ ?_ 0 0 (by omega) rfl) rfl
  · rintro s hs
    rw [List.drop_length] at hs
    have hs2 : s = valW 0 l := hs
    refine ev_unfold (fun k => rfl) ?_
    simp only [laws_FnMelds.l2]
    have top := left_top l (by omega)
    have go : Ev (fun k => (impl_CanGoOut.f k l).bind fun t336 => (laws_FnMelds.j4 k w (t336 != (leftOver l == 0)))) true :=
      Ev.bind (impl_CanGoOut_ev l (by omega)) (by rw [show ((leftOver l == 0) != (leftOver l == 0)) = false by simp]; exact FnMelds_end w hw)
    refine ev_neg (by omega) (ev_neg (by omega) (ev_ite (fun h0 => ev_ite (fun h1 => ev_pos ?_ go) (fun _ => go)) (fun _ => go)))
    rw [hs2]; exact left_none l h0 (by omega)
  · rintro s i hi hs ih
    refine ev_unfold (fun k => rfl) ?_
    simp only [laws_FnMelds.l2, impl_ValueOf_eq, Option.bind_some]
    rw [w64next i (by omega), rd_at l i hi]
    rw [List.drop_eq_getElem_cons hi] at hs
    exact ev_pos (by omega) (ev_pos (by omega) (ih _ hs))
theorem FnMelds_loop (w l : List Int) (hw : w.length ≤ 1048576) (hl : l.length ≤ 40) : Ev (fun k => laws_FnMelds.l0 k w l (meldsIn l) (leftOver l) 0) true := by
  have sm := meldsIn_small l
  refine ev_done (ev_loop (fun k (_ : Unit) i => laws_FnMelds.l0 k w l (meldsIn l) (leftOver l) i) (meldsIn l) (fun _ _ => true) (fun _ _ => True) ?_ ?_ () 0 (by omega) trivial) rfl
  · rintro s _
    refine ev_unfold (fun k => rfl) ?_
    simp only [laws_FnMelds.l0]
    exact ev_neg (by omega) (FnMelds_all w l hw hl)
  · rintro s i hi _ ih
    have hm := List.getElem_mem hi
    have hs := sm.2.2 _ hm
    have hok : okM l = true := by
      unfold meldsIn at hm
      split at hm
      · assumption
      · cases hm
    obtain ⟨a1, a2, a3⟩ := (meldsIn_mem hok).1 hm
    have rest : Ev (fun k => laws_FnMelds.j1 k w l (meldsIn l) (leftOver l) (i : Int) false) true := by
      refine ev_unfold (fun k => rfl) ?_
      simp only [laws_FnMelds.j1]
      refine ev_neg (by simp) ?_
      refine ev_done (ev_loop (fun k (s : List Int) j => laws_FnMelds.l1 k w l (meldsIn l) (leftOver l) (i : Int) s j) l (fun _ _ => true) (fun s j => s.length ≤ j ∧ s ++ (l.drop j).filter (fun y => decide (y ∉ (meldsIn l)[i])) = l.filter (fun y => decide (y ∉ (meldsIn l)[i]))) ?_ ?_ [] 0 (by omega) ⟨Nat.le_refl _, rfl⟩) rfl
      · rintro s ⟨h1, h2⟩
        rw [List.drop_length, List.filter_nil, List.append_nil] at h2
        refine ev_unfold (fun k => rfl) ?_
        simp only [laws_FnMelds.l1]
        refine ev_neg (by omega) (Ev.bind (impl_LeftOver_ev s (by omega)) (ev_neg ?_ ?_))
        · rw [h2]
          have := left_le hok hm
          omega
        · rw [w64next i (by omega)]
          exact ih () trivial
      · rintro s j hj ⟨h1, h2⟩ ihj
        refine ev_unfold (fun k => rfl) ?_
        simp only [laws_FnMelds.l1]
        rw [w64next j (by omega), rd_at l j hj, rdss_at _ i hi]
        rw [List.drop_eq_getElem_cons hj, List.filter_cons] at h2
        refine ev_pos (by omega) (ev_pos (by omega) (ev_pos (by omega) (ev_pos (by omega) (Ev.bind (laws_contains_ev _ _ (by omega)) (ev_ite (fun g => ?_) (fun g => ev_pos (by omega) ?_))))))
        · have g2 := of_decide_eq_true g
          rw [if_neg (by simpa using g2)] at h2
          exact ihj s ⟨by omega, h2⟩
        · have g2 : l[j] ∉ (meldsIn l)[i] := fun z => g (decide_eq_true z)
          rw [if_pos (decide_eq_true g2)] at h2
          exact ihj _ ⟨by simp; omega, by rw [List.append_assoc]; exact h2⟩
    have hwi : decide (∀ y ∈ (meldsIn l)[i], y ∈ l) = true := decide_eq_true a2
    refine ev_unfold (fun k => rfl) ?_
    simp only [laws_FnMelds.l0]
    rw [rdss_at _ i hi]
    refine ev_pos (by omega) (ev_pos (by omega) (Ev.bind (impl_IsSetMeld_ev _ (by omega)) (ev_ite (fun g => ?_) (fun g => ?_))))
    · refine Ev.bind (laws_within_ev _ l (by omega) (by omega)) (ev_pos hwi (Ev.bind (laws_ascends_ev _ (by omega)) ?_))
      rw [ascB_iff.2 a1]; exact rest
    · have hr : runMeld (meldsIn l)[i] = true := a3.resolve_left g
      refine Ev.bind (impl_IsRunMeld_ev _ (by omega)) (ev_pos hr (Ev.bind (laws_within_ev _ l (by omega) (by omega)) (ev_pos hwi (Ev.bind (laws_ascends_ev _ (by omega)) ?_))))
      rw [ascB_iff.2 a1]; exact rest
theorem FnMelds : laws_FnMelds.Pure := by
  intro w _ _ _
  refine Ev.rounds ?_
  simp only [laws_FnMelds.f, laws_big_eq, Option.bind_some]
  refine ev_ite (fun _ => Ev.now _) (fun h => ?_)
  have hw : w.length ≤ 1048576 := by simp at h; omega
  obtain ⟨l, e, hl⟩ := spec_DrawLeftOver_ev w (by omega)
  exact Ev.bind e (Ev.bind (impl_MeldsIn_ev l (by omega)) (Ev.bind (impl_LeftOver_ev l (by omega)) (FnMelds_loop w l hw hl)))

end Go.Proofs.Ytecjbogconeilaa.Pure
