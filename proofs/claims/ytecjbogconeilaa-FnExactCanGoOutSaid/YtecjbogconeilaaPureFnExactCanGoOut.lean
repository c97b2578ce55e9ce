/- In the given program FnExactCanGoOut answers true for every input, by what its functions compute; no condition. -/
import Derived.Test.YtecjbogconeilaaQFnExactCanGoOutx9
import Derived.Test.YtecjbogconeilaaLib
import Derived.Test.YtecjbogconeilaaCards
import Derived.Test.YtecjbogconeilaaCards2
import Derived.Test.YtecjbogconeilaaCalls
import Derived.Test.YtecjbogconeilaaHands
import Derived.Test.YtecjbogconeilaaSort
import Derived.Test.YtecjbogconeilaaDeal
import Derived.Test.YtecjbogconeilaaMarks
import Derived.Test.YtecjbogconeilaaFive
import Derived.Test.YtecjbogconeilaaOrder
import Derived.Test.YtecjbogconeilaaMeldSet
import Derived.Test.YtecjbogconeilaaMeldRun
import Derived.Test.YtecjbogconeilaaLeft
namespace Go.Proofs.Ytecjbogconeilaa.Pure
open Go.RowKit Go.Proofs.Ytecjbogconeilaa.QFnExactCanGoOut Go.Proofs.YtecjbogconeilaaW.PrintWords Go.Proofs.YtecjbogconeilaaW.PrintLast Go.Proofs.YtecjbogconeilaaW.PrintMore Go.Proofs.Ytecjbogconeilaa.Lib
set_option linter.unusedVariables false
set_option linter.unusedSimpArgs false

theorem rdss_at (l : List (List Int)) (i : Nat) (h : i < l.length) : rd_L1 l (i : Int) = l[i] := by
  unfold rd_L1
  rw [Int.toNat_natCast, List.getD_eq_getElem?_getD, List.getElem?_eq_getElem h]
  rfl

theorem laws_toIntS_ev (l : List Int) (hl : l.length ≤ 1048576000) : Ev (fun k => laws_toIntS.f k l) l := by
  simp only [laws_toIntS.f]
  refine ev_pos (by omega) (ev_pos (by omega) ?_)
  refine ev_loop (fun k (s : List Int) i => laws_toIntS.l0 k l s i) l (fun _ _ => l) (fun s i => s.length = l.length ∧ s.take i = l.take i) ?_ ?_ _ 0 (by omega) ⟨by simp, by simp⟩
  · rintro s ⟨h1, h2⟩
    refine ev_unfold (fun k => rfl) ?_
    simp only [laws_toIntS.l0]
    refine ev_neg (by omega) (ev_ret ?_)
    rw [List.take_of_length_le (by omega), List.take_of_length_le (by omega)] at h2
    exact h2
  · rintro s i hi ⟨h1, h2⟩ ih
    refine ev_unfold (fun k => rfl) ?_
    simp only [laws_toIntS.l0]
    refine ev_pos (by omega) (ev_pos (by omega) (ev_pos (by omega) ?_))
    rw [w64next i (by omega), rd_at l i hi, Int.toNat_natCast]
    refine ih _ ⟨by simpa using h1, ?_⟩
    apply List.ext_getElem
    · simp; omega
    · intro j hj1 hj2
      simp at hj1 hj2
      simp only [List.getElem_take, List.getElem_set]
      by_cases hij : i = j
      · subst hij; simp
      · rw [if_neg hij]
        have h3 : (s.take i)[j]'(by simp; omega) = (l.take i)[j]'(by simp; omega) := by simp only [h2]
        simpa using h3

theorem laws_eqIntS_ev (a b : List Int) (ha : a.length ≤ 1048576000) : Ev (fun k => laws_eqIntS.f k a b) (decide (a = b)) := by
  simp only [laws_eqIntS.f]
  refine ev_ite (fun hlen => ?_) (fun hne => ev_ret ?_)
  · have hlen' : a.length = b.length := by omega
    have h := ev_loop (fun k (_ : Unit) i => laws_eqIntS.l0 k a b i) a (fun _ r => decide (r = b.drop (a.length - r.length))) (fun _ _ => True) ?_ ?_ () 0 (by omega) trivial
    · refine ev_done h ?_
      simp
    · rintro _ _
      refine ev_unfold (fun k => rfl) ?_
      simp only [laws_eqIntS.l0]
      refine ev_neg (by omega) (ev_ret ?_)
      rw [List.length_nil, Nat.sub_zero, hlen', drop_end]
      simp
    · rintro _ i hi _ ih
      refine ev_unfold (fun k => rfl) ?_
      simp only [laws_eqIntS.l0]
      refine ev_pos (by omega) (ev_pos (by omega) (ev_pos (by omega) ?_))
      rw [w64next i (by omega), rd_at a i hi, rd_at b i (by omega)]
      have e1 : a.length - (a[i] :: a.drop (i + 1)).length = i := by simp; omega
      have e2 : a.length - (a.drop (i + 1)).length = i + 1 := by simp; omega
      refine ev_ite (fun heq => ?_) (fun hne => ev_ret ?_)
      · refine ev_done (ih () trivial) ?_
        rw [e1, e2, drop_at b i (by omega), heq]
        exact decide_eq_decide.2 ⟨fun h => by rw [h], fun h => (List.cons.inj h).2⟩
      · rw [e1, drop_at b i (by omega)]
        exact (decide_eq_false (fun h => hne (List.cons.inj h).1)).symm
  · have : a ≠ b := by rintro rfl; exact hne rfl
    simp [this]

theorem impl_InRange_eq (n a b : Int) : impl_InRange.f n a b = some (inR n a b) := by
  unfold impl_InRange.f inR
  by_cases h : a ≤ n
  · rw [if_pos (by omega)]; simp [h]
  · rw [if_neg (by omega)]; simp [h]

theorem impl_IsCard_eq (c : Int) : impl_IsCard.f c = some (isCard c) := by
  unfold impl_IsCard.f isCard
  rw [impl_InRange_eq]; rfl

theorem impl_IsHand_ev (l : List Int) (hl : l.length ≤ 1048576000) : Ev (fun k => impl_IsHand.f k l) (isHand l) := by
  simp only [impl_IsHand.f]
  refine ev_done (ev_loopN (fun k (s : List Bool) i => impl_IsHand.l0 k l s i) l.length (fun _ i => handF (l.take i) (l.drop i)) (fun s i => s.length = 52 ∧ ∀ c : Nat, c < 52 → s.getD c false = decide ((c : Int) ∈ l.take i)) ?_ ?_ _ 0 (by omega) ⟨by simp, fun c hc => by rw [List.getD_eq_getElem?_getD, List.getElem?_replicate, if_pos hc]; simp⟩) (by simp [isHand])
  · rintro s _
    refine ev_unfold (fun k => rfl) ?_
    simp only [impl_IsHand.l0]
    refine ev_neg (by omega) (ev_ret ?_)
    rw [drop_end]; rfl
  · rintro s i hi ⟨h52, hs⟩ ih
    refine ev_unfold (fun k => rfl) ?_
    simp only [impl_IsHand.l0]
    rw [w64next i (by omega), rd_at l i hi, drop_at l i hi]
    unfold handF
    refine ev_pos (by omega) (ev_pos (by omega) (ev_eq (impl_IsCard_eq _) (ev_ite (fun h => ?_) (fun h => ev_ret ?_))))
    · have hc := (isCard_iff _).1 h
      have he := hs l[i].toNat (by omega)
      rw [show ((l[i].toNat : Nat) : Int) = l[i] by omega] at he
      refine ev_pos (by omega) (ev_pos (by omega) (ev_ite (fun h2 => ev_ret ?_) (fun h2 => ev_done (ih _ ⟨by simpa using h52, fun c hc2 => ?_⟩) ?_)))
      · rw [h2] at he
        unfold hasCard
        rw [← he]; simp
      · rw [take_at l i hi, List.getD_eq_getElem?_getD, List.getElem?_set]
        have h3 := hs c hc2
        rw [List.getD_eq_getElem?_getD] at h3
        by_cases hci : l[i].toNat = c
        · rw [if_pos hci, if_pos (by omega)]
          have : (c : Int) = l[i] := by omega
          exact (decide_eq_true (List.mem_append.2 (.inr (by rw [this]; exact List.mem_singleton.2 rfl)))).symm
        · rw [if_neg hci, h3]
          have : ¬ (c : Int) = l[i] := by omega
          exact decide_eq_decide.2 ⟨fun h => List.mem_append.2 (.inl h), fun h => (List.mem_append.1 h).resolve_right (fun h => this (List.mem_singleton.1 h))⟩
      · rw [Bool.not_eq_true] at h2
        rw [h2] at he
        unfold hasCard
        rw [h, ← he, take_at l i hi]; simp
    · rw [Bool.not_eq_true] at h
      rw [h]; simp

theorem impl_RankOf_eq (c : Int) : impl_RankOf.f c = some (rankOf c) := by
  unfold impl_RankOf.f rankOf
  rw [impl_IsCard_eq]
  simp only [Option.bind_some]
  by_cases h : isCard c = true
  · rw [if_pos h, if_pos h, Int.tmod_eq_emod_of_nonneg ((isCard_iff c).1 h).1]
  · rw [if_neg h, if_neg h]

theorem impl_IsSetMeld_ev (l : List Int) (hl : l.length ≤ 1048576000) : Ev (fun k => impl_IsSetMeld.f k l) (setMeld l) := by
  have l0 : Ev (fun k => impl_IsSetMeld.l0 k l l (l.length : Int) 0) (l.all fun c => decide (rankOf c = rankOf (rd l 0))) := by
    refine ev_done (ev_loop (fun k (_ : Unit) i => impl_IsSetMeld.l0 k l l (l.length : Int) i) l (fun _ r => (r.all fun c => decide (rankOf c = rankOf (rd l 0)))) (fun _ _ => True) ?_ ?_ () 0 (by omega) trivial) rfl
    · rintro s _
      refine ev_unfold (fun k => rfl) ?_
      simp only [impl_IsSetMeld.l0]
      exact ev_neg (by omega) (ev_ret rfl)
    · rintro s i hi _ ih
      refine ev_unfold (fun k => rfl) ?_
      simp only [impl_IsSetMeld.l0, impl_RankOf_eq, Option.bind_some]
      rw [w64next i (by omega), rd_at l i hi, List.all_cons]
      refine ev_pos (by omega) (ev_pos (by omega) (ev_pos (by omega) (ev_pos (by omega) (ev_ite (fun h => ev_done (ih () trivial) ?_) (fun h => ev_ret ?_)))))
      · rw [show decide (rankOf l[i] = rankOf (rd l 0)) = true from decide_eq_true h, Bool.true_and]
      · rw [show decide (rankOf l[i] = rankOf (rd l 0)) = false from decide_eq_false h]; simp
  have j0 : ∀ b, Ev (fun k => impl_IsSetMeld.j0 k l b) (!b && l.all fun c => decide (rankOf c = rankOf (rd l 0))) := by
    intro b
    refine ev_unfold (fun k => rfl) ?_
    simp only [impl_IsSetMeld.j0]
    refine ev_ite (fun h => ?_) (fun h => ?_)
    · rw [h]; exact Ev.now _
    · rw [Bool.not_eq_true] at h; rw [h]; exact ev_done l0 (by simp)
  simp only [impl_IsSetMeld.f, impl_InRange_eq, Option.bind_some]
  unfold setMeld
  refine Ev.bind (impl_IsHand_ev l hl) (ev_ite (fun h => ev_done (j0 _) ?_) (fun h => ev_done (j0 _) ?_))
  · rw [h]; simp
  · rw [Bool.not_eq_true] at h; rw [h]; simp

theorem impl_Sorted_ev (l : List Int) (hl : l.length ≤ 1048576000) : Ev (fun k => impl_Sorted.f k l) (sorted l) := by
  simp only [impl_Sorted.f]
  refine ev_done (ev_loop (fun k (s : List Int) i => impl_Sorted.l0 k s l (l.length : Int) i) l (fun s r => sortF s r) (fun s i => s.length = i) ?_ ?_ [] 0 (by omega) rfl) rfl
  · rintro s _
    refine ev_unfold (fun k => rfl) ?_
    simp only [impl_Sorted.l0]
    exact ev_neg (by omega) (ev_ret rfl)
  · rintro s i hi hs ih
    have l1 : ∀ q : Nat, q ≤ s.length → Ev (fun k => impl_Sorted.l1 k s l[i] (q : Int) l (l.length : Int) (i : Int)) (sortF (insAt s (backF s l[i] q) l[i]) (l.drop (i + 1))) := by
      have fin : ∀ q : Nat, q ≤ s.length → Ev (fun k => if s.length < 17592186044416 then ((some (s ++ [0] : List Int)).bind fun y => (if 0 ≤ (q : Int) then (if (q : Int) < (y.length : Int) then (impl_Sorted.l0 k ((Arr.shifted y (q : Int).toNat).set (q : Int).toNat l[i]) l (l.length : Int) (wrap64 ((i : Int) + 1))) else none) else none)) else none) (sortF (insAt s q l[i]) (l.drop (i + 1))) := by
        intro q hq
        refine ev_pos (by omega) ?_
        simp only [Option.bind_some]
        rw [w64next i (by omega), Int.toNat_natCast, shift_set s 0 l[i] q hq]
        refine ev_pos (by omega) (ev_pos (by simp; omega) (ih _ ?_))
        rw [insAt_length _ _ _ hq, hs]
      intro q
      induction q with
      | zero =>
        intro hq
        refine ev_unfold (fun k => rfl) ?_
        simp only [impl_Sorted.l1]
        refine ev_neg (by omega) ?_
        exact fin 0 (by omega)
      | succ q ihq =>
        intro hq
        refine ev_unfold (fun k => rfl) ?_
        simp only [impl_Sorted.l1]
        have e1 : wrap64 (((q + 1 : Nat) : Int) - 1) = (q : Int) := by rw [w64 _ (by omega)]; omega
        rw [e1]
        refine ev_pos (by omega) (ev_pos (by omega) (ev_pos (by omega) ?_))
        unfold backF
        refine ev_ite (fun h => ?_) (fun h => ?_)
        · rw [if_pos h]; exact ihq (by omega)
        · rw [if_neg h]; exact fin (q + 1) hq
    refine ev_unfold (fun k => rfl) ?_
    simp only [impl_Sorted.l0]
    rw [rd_at l i hi]
    exact ev_pos (by omega) (ev_pos (by omega) (ev_pos (by omega) (l1 s.length (Nat.le_refl _))))

theorem impl_SuitOf_eq (c : Int) : impl_SuitOf.f c = some (suitOf c) := by
  unfold impl_SuitOf.f suitOf
  rw [impl_IsCard_eq]
  simp only [Option.bind_some]
  by_cases h : isCard c = true
  · have h2 := (isCard_iff c).1 h
    rw [if_pos h, if_pos h, Int.tdiv_eq_ediv_of_nonneg h2.1, w64 _ (by omega)]
  · rw [if_neg h, if_neg h]

theorem impl_IsRunMeld_ev (l : List Int) (hl : l.length ≤ 1048576000) : Ev (fun k => impl_IsRunMeld.f k l) (runMeld l) := by
  have hsl := sorted_length l
  have l0 : Ev (fun k => impl_IsRunMeld.l0 k (sorted l) (sorted l) ((sorted l).length : Int) 0) (allFrom (sorted l).length 0 (chainB (sorted l))) := by
    refine ev_done (ev_loopN (fun k (_ : Unit) i => impl_IsRunMeld.l0 k (sorted l) (sorted l) ((sorted l).length : Int) i) (sorted l).length (fun _ i => allFrom (sorted l).length i (chainB (sorted l))) (fun _ i => True) ?_ ?_ () 0 (by omega) trivial) rfl
    · rintro s _
      refine ev_unfold (fun k => rfl) ?_
      simp only [impl_IsRunMeld.l0]
      rw [allFrom_end]
      exact ev_neg (by omega) (Ev.now _)
    · rintro s i hi _ ih
      refine ev_unfold (fun k => rfl) ?_
      simp only [impl_IsRunMeld.l0, impl_SuitOf_eq, Option.bind_some]
      rw [w64next i (by omega), allFrom_step _ hi]
      unfold chainB
      refine ev_pos (by omega) (ev_pos (by omega) (ev_pos (by omega) (ev_pos (by omega) (ev_ite (fun h => ?_) (fun h => ev_ret ?_)))))
      · refine ev_ite (fun h2 => ev_done (ih () trivial) ?_) (fun h2 => ev_ret ?_)
        · rw [show decide (suitOf (rd (sorted l) (i : Int)) = suitOf (rd (sorted l) 0)) = true from decide_eq_true h, show decide (rd (sorted l) (i : Int) = wrap64 (rd (sorted l) 0 + (i : Int))) = true from decide_eq_true h2]
          simp only [Bool.true_and]
          rfl
        · rw [show decide (rd (sorted l) (i : Int) = wrap64 (rd (sorted l) 0 + (i : Int))) = false from decide_eq_false h2]; simp
      · rw [show decide (suitOf (rd (sorted l) (i : Int)) = suitOf (rd (sorted l) 0)) = false from decide_eq_false h]; simp
  have j0 : ∀ b, Ev (fun k => impl_IsRunMeld.j0 k l b) (!b && allFrom (sorted l).length 0 (chainB (sorted l))) := by
    intro b
    refine ev_unfold (fun k => rfl) ?_
    simp only [impl_IsRunMeld.j0]
    refine ev_ite (fun h => ?_) (fun h => ?_)
    · rw [h]; exact Ev.now _
    · rw [Bool.not_eq_true] at h; rw [h]
      exact Ev.bind (impl_Sorted_ev l hl) (ev_done l0 (by simp))
  simp only [impl_IsRunMeld.f]
  unfold runMeld
  refine Ev.bind (impl_IsHand_ev l hl) (ev_ite (fun h => ev_done (j0 _) ?_) (fun h => ev_done (j0 _) ?_))
  · rw [h, Bool.true_and]
    congr 1
    by_cases h3 : 3 ≤ l.length
    · rw [show decide ((l.length : Int) < 3) = false from decide_eq_false (by omega), show decide (3 ≤ l.length) = true from decide_eq_true h3]; rfl
    · rw [show decide ((l.length : Int) < 3) = true from decide_eq_true (by omega), show decide (3 ≤ l.length) = false from decide_eq_false h3]; rfl
  · rw [Bool.not_eq_true] at h; rw [h]; rfl

theorem impl_isBefore_ev (a b : List Int) (ha : a.length ≤ 1048576000) : Ev (fun k => impl_isBefore.f k a b) (before a b) := by
  have key : ∀ (d i : Nat), i + d = a.length → i ≤ b.length → Ev (fun k => impl_isBefore.l0 k a b (a.length : Int) (i : Int)) (before (a.drop i) (b.drop i)) := by
    intro d
    induction d with
    | zero =>
      intro i hd hb
      refine ev_unfold (fun k => rfl) ?_
      simp only [impl_isBefore.l0]
      refine ev_neg (by omega) (ev_ret ?_)
      have e : a.drop i = [] := List.drop_of_length_le (by omega)
      rw [before_end (.inl e), List.length_drop, List.length_drop]
      exact decide_eq_decide.2 (by omega)
    | succ d ih =>
      intro i hd hb
      refine ev_unfold (fun k => rfl) ?_
      simp only [impl_isBefore.l0]
      refine ev_pos (by omega) (ev_ite (fun h => ?_) (fun h => ?_))
      · have e : b.drop i = [] := List.drop_of_length_le (by omega)
        refine ev_ret ?_
        rw [before_end (.inr e), List.length_drop, List.length_drop]
        exact (decide_eq_false (by omega)).symm
      · have hb2 : i < b.length := by omega
        rw [w64next i (by omega), rd_at a i (by omega), rd_at b i hb2, List.drop_eq_getElem_cons (by omega : i < a.length), List.drop_eq_getElem_cons hb2]
        refine ev_pos (by omega) (ev_pos (by omega) (ev_pos (by omega) ?_))
        unfold before
        refine ev_ite (fun h2 => ?_) (fun h2 => ?_)
        · rw [if_pos h2]; exact ih (i + 1) (by omega) (by omega)
        · rw [if_neg h2]; exact Ev.now _
  simp only [impl_isBefore.f]
  exact key a.length 0 (by omega) (by omega)

theorem not_of {b : Bool} (h : (!b) = true) : ¬ b = true := by cases b <;> simp_all
theorem of_not {b : Bool} (h : ¬ (!b) = true) : b = true := by cases b <;> simp_all
theorem impl_MeldsIn_put (s l0 : List Int) (o : List (List Int)) (x : List Int) (N : Int) (m : Nat) (hm : m ≤ 4096) (ho : o.length ≤ 1048576) (hx : x.length ≤ 1048576) {R : List (List Int)}
    (h : Ev (fun k => impl_MeldsIn.l0 k s (putR o x) N ((m + 1 : Nat) : Int)) R) : Ev (fun k => impl_MeldsIn.l2 k s o x (o.length : Int) N (m : Int)) R := by
  have fin : ∀ q : Nat, q ≤ o.length → insAt o q x = putR o x → Ev (fun k => if o.length < 5864062014805 then ((some (o ++ [[]] : List (List Int))).bind fun y264 => (if 0 ≤ (q : Int) then (if (q : Int) < (y264.length : Int) then (impl_MeldsIn.l0 k s ((Arr.shifted y264 (q : Int).toNat).set (q : Int).toNat x) N (wrap64 ((m : Int) + 1))) else (none)) else (none))) else (none)) R := by
    intro q hq e
    refine ev_pos (by omega) ?_
    simp only [Option.bind_some]
    rw [w64next m (by omega), Int.toNat_natCast, shift_set o [] x q hq, e]
    exact ev_pos (by omega) (ev_pos (by simp; omega) h)
  have key : ∀ q : Nat, q ≤ o.length → insAt o (backR o x q) x = putR o x → Ev (fun k => impl_MeldsIn.l2 k s o x (q : Int) N (m : Int)) R := by
    intro q
    induction q with
    | zero =>
      intro hq e
      refine ev_unfold (fun k => rfl) ?_
      simp only [impl_MeldsIn.l2]
      exact ev_neg (by omega) (fin 0 (by omega) e)
    | succ q ih =>
      intro hq e
      refine ev_unfold (fun k => rfl) ?_
      simp only [impl_MeldsIn.l2]
      have e1 : wrap64 (((q + 1 : Nat) : Int) - 1) = (q : Int) := by rw [w64 _ (by omega)]; omega
      rw [e1, rdss_at o q (by omega)]
      refine ev_pos (by omega) (ev_pos (by omega) (ev_pos (by omega) (Ev.bind (impl_isBefore_ev x o[q] (by omega)) ?_)))
      unfold backR at e
      rw [getD_at o q [] (by omega)] at e
      refine ev_ite (fun h => ?_) (fun h => ?_)
      · rw [if_pos h] at e; exact ih (by omega) e
      · rw [if_neg h] at e; exact fin (q + 1) hq e
  exact key o.length (Nat.le_refl _) rfl
theorem impl_MeldsIn_in (s : List Int) (o : List (List Int)) (N : Int) (m : Nat) (hm : m ≤ 4096) (hs : s.length ≤ 12) (ho : o.length ≤ 1048576) {R : List (List Int)}
    (h : Ev (fun k => impl_MeldsIn.l0 k s (if (setMeld (selB s m) || runMeld (selB s m)) = true then putR o (selB s m) else o) N ((m + 1 : Nat) : Int)) R) :
    Ev (fun k => impl_MeldsIn.l1 k s o (m : Int) [] N (m : Int) s (s.length : Int) 0) R := by
  have key : ∀ (d i : Nat) (x : List Int), i + d = s.length → x.length ≤ i → x ++ pickF (m : Int) i (s.drop i) = selB s m → Ev (fun k => impl_MeldsIn.l1 k s o (m : Int) x N (m : Int) s (s.length : Int) (i : Int)) R := by
    intro d
    induction d with
    | zero =>
      intro i x hd hx e
      refine ev_unfold (fun k => rfl) ?_
      simp only [impl_MeldsIn.l1]
      rw [List.drop_of_length_le (by omega), show pickF (m : Int) i [] = [] from rfl, List.append_nil] at e
      rw [← e] at h
      have j3 : ∀ b : Bool, b = !(setMeld x || runMeld x) → Ev (fun k => impl_MeldsIn.j3 k s o x N (m : Int) b) R := by
        intro b hb
        refine ev_unfold (fun k => rfl) ?_
        simp only [impl_MeldsIn.j3]
        refine ev_ite (fun g => ?_) (fun g => ?_)
        · rw [if_neg (not_of (hb ▸ g))] at h
          rw [w64next m (by omega)]; exact h
        · rw [if_pos (of_not (hb ▸ g))] at h
          exact impl_MeldsIn_put s [] o x N m hm ho (by omega) h
      refine ev_neg (by omega) (Ev.bind (impl_IsSetMeld_ev x (by omega)) (ev_ite (fun g => ?_) (fun g => ?_)))
      · exact j3 _ (by rw [g]; rfl)
      · refine Ev.bind (impl_IsRunMeld_ev x (by omega)) (j3 _ ?_)
        rw [Bool.eq_false_iff.2 g]; rfl
    | succ d ih =>
      intro i x hd hx e
      refine ev_unfold (fun k => rfl) ?_
      simp only [impl_MeldsIn.l1]
      rw [w64next i (by omega), rd_at s i (by omega)]
      rw [List.drop_eq_getElem_cons (by omega : i < s.length)] at e
      unfold pickF at e
      refine ev_pos (by omega) (ev_pos (by omega) (ev_pos (by omega) (ev_ite (fun h1 => ev_pos (by omega) (ih (i + 1) _ (by omega) (by simp; omega) ?_)) (fun h1 => ih (i + 1) _ (by omega) (by omega) ?_))))
      · rw [if_pos (show bitOf (m : Int) i = true from decide_eq_true h1)] at e
        rw [List.append_assoc]; exact e
      · rw [if_neg (show ¬ bitOf (m : Int) i = true from fun z => h1 (of_decide_eq_true z))] at e
        exact e
  refine key s.length 0 [] (by omega) (Nat.le_refl _) ?_
  rw [List.nil_append, List.drop_zero, pickF_sel m (by omega) s 0 (by omega), Nat.pow_zero, Nat.div_one]
theorem impl_MeldsIn_ev (l : List Int) (hl : l.length ≤ 1048576000) : Ev (fun k => impl_MeldsIn.f k l) (meldsIn l) := by
  have loop : ∀ (s : List Int), s.length ≤ 12 → ∀ (d m : Nat) (o : List (List Int)), m + d = 2 ^ s.length → o.length ≤ m → Ev (fun k => impl_MeldsIn.l0 k s o ((2 ^ s.length : Nat) : Int) (m : Int)) (putAll o (((List.range' m d).map (selB s)).filter (fun x => setMeld x || runMeld x))) := by
    intro s hs d
    have h2 : 2 ^ s.length ≤ 4096 := Nat.pow_le_pow_right (by omega) hs
    induction d with
    | zero =>
      intro m o hd ho
      refine ev_unfold (fun k => rfl) ?_
      simp only [impl_MeldsIn.l0]
      exact ev_neg (by omega) (Ev.now _)
    | succ d ih =>
      intro m o hd ho
      refine ev_unfold (fun k => rfl) ?_
      simp only [impl_MeldsIn.l0]
      refine ev_pos (by omega) (impl_MeldsIn_in s o _ m (by omega) hs (by omega) ?_)
      rw [List.range'_succ, List.map_cons, List.filter_cons]
      by_cases g : (setMeld (selB s m) || runMeld (selB s m)) = true
      · rw [if_pos g, if_pos g]
        exact ih (m + 1) _ (by omega) (by rw [putR_length]; omega)
      · rw [if_neg g, if_neg g]
        exact ih (m + 1) _ (by omega) (by omega)
  have j0 : ∀ b : Bool, b = !(okM l) → Ev (fun k => impl_MeldsIn.j0 k l b) (meldsIn l) := by
    intro b hb
    refine ev_unfold (fun k => rfl) ?_
    simp only [impl_MeldsIn.j0]
    unfold meldsIn
    refine ev_ite (fun h => ?_) (fun h => ?_)
    · rw [if_neg (not_of (hb ▸ h))]
      exact Ev.now _
    · have hg : okM l = true := of_not (hb ▸ h)
      rw [if_pos hg]
      have h12 : l.length ≤ 12 := by unfold okM at hg; rw [Bool.and_eq_true, decide_eq_true_eq] at hg; exact hg.2
      have sl := sorted_length l
      refine Ev.bind (impl_Sorted_ev l hl) ?_
      have e : shl .i64 1 ((sorted l).length : Int) = ((2 ^ (sorted l).length : Nat) : Int) := by
        unfold shl
        have h2 : 2 ^ (sorted l).length ≤ 4096 := Nat.pow_le_pow_right (by omega) (show (sorted l).length ≤ 12 by omega)
        have hb : IntKind.i64.bits = 64 := rfl
        rw [hb, Int.toNat_natCast, Nat.min_eq_left (by omega), i64_w, Int.one_mul, show ((2 : Int) ^ (sorted l).length) = ((2 ^ (sorted l).length : Nat) : Int) by simp]
        generalize 2 ^ (sorted l).length = p at h2 ⊢
        exact w64 _ (by omega)
      rw [e]
      have := loop (sorted l) (by omega) (2 ^ (sorted l).length) 0 [] (by omega) (Nat.zero_le _)
      rw [← List.range_eq_range'] at this
      exact this
  simp only [impl_MeldsIn.f]
  refine Ev.bind (impl_IsHand_ev l hl) (ev_ite (fun h => j0 _ ?_) (fun h => j0 _ ?_))
  · unfold okM
    rw [h, Bool.true_and]
    by_cases g : l.length ≤ 12
    · rw [decide_eq_true g]; exact decide_eq_false (by omega)
    · rw [decide_eq_false g]; exact decide_eq_true (by omega)
  · unfold okM
    rw [Bool.eq_false_iff.2 h]; rfl

theorem impl_PlaceOf_ev (l : List Int) (c : Int) (hl : l.length ≤ 1048576000) : Ev (fun k => impl_PlaceOf.f k l c) (placeOf l c) := by
  simp only [impl_PlaceOf.f]
  refine ev_loopN (fun k (_ : Unit) i => impl_PlaceOf.l0 k c l (l.length : Int) i) l.length (fun _ i => placeF c i (l.drop i)) (fun _ _ => True) ?_ ?_ () 0 (by omega) trivial
  · rintro s _
    refine ev_unfold (fun k => rfl) ?_
    simp only [impl_PlaceOf.l0]
    refine ev_neg (by omega) (ev_ret ?_)
    rw [drop_end]; rfl
  · rintro s i hi _ ih
    refine ev_unfold (fun k => rfl) ?_
    simp only [impl_PlaceOf.l0]
    refine ev_pos (by omega) (ev_pos (by omega) (ev_pos (by omega) ?_))
    rw [w64next i (by omega), rd_at l i hi, drop_at l i hi]
    unfold placeF
    refine ev_ite (fun h => ev_ret ?_) (fun h => ev_done (ih () trivial) ?_)
    · rw [if_pos h]
    · rw [if_neg h]; congr 1

theorem impl_HasCard_ev (l : List Int) (c : Int) (hl : l.length ≤ 1048576000) : Ev (fun k => impl_HasCard.f k l c) (hasCard l c) := by
  simp only [impl_HasCard.f]
  refine Ev.bind (impl_PlaceOf_ev l c hl) (ev_ret ?_)
  unfold hasCard
  exact decide_eq_decide.2 (placeOf_nonneg l c)

theorem impl_ValueOf_eq (c : Int) : impl_ValueOf.f c = some (valueOf c) := by
  unfold impl_ValueOf.f valueOf
  rw [impl_RankOf_eq]
  have hr := rankOf_range c
  simp only [Option.bind_some]
  rw [w64 (rankOf c + 2) (by omega)]
  repeat' split
  all_goals first | rfl | omega

theorem impl_values_ev (l : List Int) (hl : l.length ≤ 1048576000) : Ev (fun k => impl_values.f k l) (valW 0 l) := by
  simp only [impl_values.f]
  refine ev_done (ev_loop (fun k (s : Int) i => impl_values.l0 k s l (l.length : Int) i) l (fun s r => valW s r) (fun _ _ => True) ?_ ?_ 0 0 (by omega) trivial) rfl
  · rintro s _
    refine ev_unfold (fun k => rfl) ?_
    simp only [impl_values.l0]
    exact ev_neg (by omega) (ev_ret rfl)
  · rintro s i hi _ ih
    refine ev_unfold (fun k => rfl) ?_
    simp only [impl_values.l0, impl_ValueOf_eq, Option.bind_some]
    rw [w64next i (by omega), rd_at l i hi]
    exact ev_pos (by omega) (ev_pos (by omega) (ev_pos (by omega) (ih _ trivial)))

theorem impl_Without_ev (l : List Int) (c : Int) (hl : l.length ≤ 1048576000) : Ev (fun k => impl_Without.f k l c) (l.filter (fun y => decide (y ≠ c))) := by
  simp only [impl_Without.f]
  refine ev_done (ev_loop (fun k (s : List Int) i => impl_Without.l0 k c s l (l.length : Int) i) l (fun s r => s ++ r.filter (fun y => decide (y ≠ c))) (fun s i => s.length ≤ i) ?_ ?_ [] 0 (by omega) (Nat.le_refl _)) (by simp)
  · rintro s _
    refine ev_unfold (fun k => rfl) ?_
    simp only [impl_Without.l0]
    exact ev_neg (by omega) (ev_ret (by simp))
  · rintro s i hi hs ih
    refine ev_unfold (fun k => rfl) ?_
    simp only [impl_Without.l0]
    rw [w64next i (by omega), rd_at l i hi]
    refine ev_pos (by omega) (ev_pos (by omega) (ev_pos (by omega) (ev_ite (fun h => ?_) (fun h => ev_pos (by omega) ?_))))
    · refine ev_done (ih s (by omega)) ?_
      rw [List.filter_cons, if_neg (by simpa using h)]
    · refine ev_done (ih (s ++ [l[i]]) (by simp; omega)) ?_
      rw [List.filter_cons, if_pos (decide_eq_true h), List.append_assoc]; rfl

theorem impl_LeftOver_1_ev (M : List (List Int)) (hM : M.length ≤ 1048576000) (hm : ∀ m ∈ M, m.length ≤ 1048576000) : ∀ (d i : Nat), i + d = M.length → ∀ (l : List Int) (o : Int), l.length ≤ 1048576000 → Ev (fun k => impl_LeftOver_1.l0 k l M o (i : Int)) (leastF (M.drop i) l o) := by
  intro d
  induction d with
  | zero =>
    intro i hd l o hl
    refine ev_unfold (fun k => rfl) ?_
    simp only [impl_LeftOver_1.l0]
    rw [List.drop_of_length_le (by omega)]
    exact ev_neg (by omega) (Ev.now _)
  | succ d ih =>
    intro i hd l o hl
    have hi : i < M.length := by omega
    refine ev_unfold (fun k => rfl) ?_
    simp only [impl_LeftOver_1.l0]
    rw [rdss_at M i hi, List.drop_eq_getElem_cons hi]
    have g2 := hm _ (List.getElem_mem hi)
    refine ev_pos (by omega) (ev_pos (by omega) ?_)
    have key : ∀ (e j : Nat) (s : List Int) (b : Bool), j + e = M[i].length → s.length ≤ 1048576000 → Ev (fun k => impl_LeftOver_1.l1 k l M o (i : Int) s b M[i] (M[i].length : Int) (j : Int)) (leastF (M.drop (i + 1)) l (if (b && wholeF s (M[i].drop j)) = true then min o (leastF (M.drop (i + 1)) (minusF s (M[i].drop j)) (valW 0 (minusF s (M[i].drop j)))) else o)) := by
      intro e
      induction e with
      | zero =>
        intro j s b hj hs
        refine ev_unfold (fun k => rfl) ?_
        simp only [impl_LeftOver_1.l1]
        rw [w64next i (by omega), List.drop_of_length_le (by omega : M[i].length ≤ j), show wholeF s [] = true from rfl, Bool.and_true, show minusF s [] = s from rfl]
        refine ev_neg (by omega) (ev_ite (fun h => ?_) (fun h => ?_))
        · rw [if_pos h]
          refine Ev.bind (ev_unfold (fun k => rfl) (f := fun k => (impl_values.f k s).bind fun t142 => (impl_LeftOver_1.l0 k s M t142 ((i + 1 : Nat) : Int))) (Ev.bind (impl_values_ev s hs) (ih (i + 1) (by omega) _ _ hs))) ?_
          rw [show mn o (leastF (M.drop (i + 1)) s (valW 0 s)) = min o (leastF (M.drop (i + 1)) s (valW 0 s)) by unfold mn; omega]
          exact ih (i + 1) (by omega) l _ hl
        · rw [if_neg h]
          exact ih (i + 1) (by omega) l o hl
      | succ e ihe =>
        intro j s b hj hs
        have hjl : j < M[i].length := by omega
        have hf := Nat.le_trans (List.length_filter_le (fun y => decide (y ≠ M[i][j])) s) hs
        refine ev_unfold (fun k => rfl) ?_
        simp only [impl_LeftOver_1.l1]
        rw [w64next j (by omega), rd_at M[i] j hjl, List.drop_eq_getElem_cons hjl, show minusF s (M[i][j] :: M[i].drop (j + 1)) = minusF (s.filter (fun y => decide (y ≠ M[i][j]))) (M[i].drop (j + 1)) from rfl]
        unfold wholeF
        refine ev_pos (by omega) (ev_pos (by omega) (ev_pos (by omega) (ev_ite (fun h => ?_) (fun h => ?_))))
        · subst h
          refine Ev.bind (impl_HasCard_ev s _ hs) (Ev.bind (impl_Without_ev s _ hs) ?_)
          rw [Bool.true_and]
          exact ihe (j + 1) _ _ (by omega) hf
        · rw [Bool.eq_false_iff.2 h]
          refine Ev.bind (impl_Without_ev s _ hs) ?_
          rw [Bool.false_and, if_neg (by simp)]
          have := ihe (j + 1) (s.filter (fun y => decide (y ≠ M[i][j]))) false (by omega) hf
          rw [Bool.false_and, if_neg (by simp)] at this
          exact this
    unfold leastF
    exact ev_done (key M[i].length 0 l true (by omega) hl) (by rw [List.drop_zero, Bool.true_and])

theorem impl_copyOf_eq (l : List Int) (hl : l.length ≤ 1048576000) : impl_copyOf.f l = some l := by
  unfold impl_copyOf.f
  simp only [Option.bind_some, List.length_nil, List.nil_append]
  rw [if_pos (by omega)]

theorem impl_LeftOver_ev (l : List Int) (hl : l.length ≤ 1048576000) : Ev (fun k => impl_LeftOver.f k l) (leftOver l) := by
  have j0 : ∀ b : Bool, b = !(okM l) → Ev (fun k => impl_LeftOver.j0 k l b) (leftOver l) := by
    intro b hb
    refine ev_unfold (fun k => rfl) ?_
    simp only [impl_LeftOver.j0, impl_copyOf_eq l hl, Option.bind_some]
    unfold leftOver
    refine ev_ite (fun h => ?_) (fun h => ?_)
    · rw [if_neg (not_of (hb ▸ h))]
      exact Ev.now _
    · have hg : okM l = true := of_not (hb ▸ h)
      rw [if_pos hg]
      have hs := meldsIn_small l
      refine Ev.bind (impl_MeldsIn_ev l hl) (Ev.bind (ev_unfold (fun k => rfl) (f := fun k => (impl_values.f k l).bind fun t142 => (impl_LeftOver_1.l0 k l (meldsIn l) t142 0)) (Ev.bind (impl_values_ev l hl) ?_)) (Ev.now _))
      exact impl_LeftOver_1_ev (meldsIn l) (by omega) (fun m hm => by have := hs.2.2 m hm; omega) (meldsIn l).length 0 (by omega) l _ hl
  simp only [impl_LeftOver.f]
  refine Ev.bind (impl_IsHand_ev l hl) (ev_ite (fun h => j0 _ ?_) (fun h => j0 _ ?_))
  · unfold okM
    rw [h, Bool.true_and]
    by_cases g : l.length ≤ 12
    · rw [decide_eq_true g]; exact decide_eq_false (by omega)
    · rw [decide_eq_false g]; exact decide_eq_true (by omega)
  · unfold okM
    rw [Bool.eq_false_iff.2 h]; rfl

theorem impl_CanGoOut_ev (l : List Int) (hl : l.length ≤ 1048576000) : Ev (fun k => impl_CanGoOut.f k l) (leftOver l == 0) := by
  simp only [impl_CanGoOut.f]
  exact Ev.bind (impl_LeftOver_ev l hl) (Ev.now _)

theorem spec_HasCard_ev (l : List Int) (c : Int) (hl : l.length ≤ 1048576000) : Ev (fun k => spec_HasCard.f k l c) (hasCard l c) := by
  simp only [spec_HasCard.f]
  refine ev_done (ev_loop (fun k (_ : Unit) i => spec_HasCard.l0 k l c i) l (fun _ r => hasCard r c) (fun _ _ => True) ?_ ?_ () 0 (by omega) trivial) rfl
  · rintro s _
    refine ev_unfold (fun k => rfl) ?_
    simp only [spec_HasCard.l0]
    exact ev_neg (by omega) (ev_ret (by simp [hasCard]))
  · rintro s i hi _ ih
    refine ev_unfold (fun k => rfl) ?_
    simp only [spec_HasCard.l0]
    rw [w64next i (by omega), rd_at l i hi]
    refine ev_pos (by omega) (ev_pos (by omega) (ev_ite (fun h => ev_ret ?_) (fun h => ev_done (ih () trivial) ?_)))
    · simp [hasCard, h]
    · have h2 : ¬ c = l[i] := fun e => h e.symm
      simp only [hasCard, List.mem_cons]
      exact decide_eq_decide.2 ⟨fun h => .inr h, fun h => h.resolve_left h2⟩

theorem spec_l1In_eq (n a b : Int) : spec_l1In.f n a b = some (inR n a b) := by
  unfold spec_l1In.f inR
  by_cases h : a ≤ n
  · rw [if_pos (by omega)]; simp [h]
  · rw [if_neg (by omega)]; simp [h]

theorem spec_IsCard_eq (c : Int) : spec_IsCard.f c = some (isCard c) := by
  unfold spec_IsCard.f isCard
  rw [spec_l1In_eq]; rfl

theorem spec_IsHand_ev (l : List Int) (hl : l.length ≤ 1048576000) : Ev (fun k => spec_IsHand.f k l) (isHand l) := by
  simp only [spec_IsHand.f]
  refine ev_done (ev_loopN (fun k (_ : Unit) i => spec_IsHand.l0 k l i) l.length (fun _ i => handF (l.take i) (l.drop i)) (fun _ _ => True) ?_ ?_ () 0 (by omega) trivial) (by simp [isHand])
  · rintro s _
    refine ev_unfold (fun k => rfl) ?_
    simp only [spec_IsHand.l0]
    refine ev_neg (by omega) (ev_ret ?_)
    rw [drop_end]; rfl
  · rintro s i hi _ ih
    have ht : (l.take i).length ≤ 1048576000 := by simp; omega
    refine ev_unfold (fun k => rfl) ?_
    simp only [spec_IsHand.l0]
    rw [w64next i (by omega), rd_at l i hi, drop_at l i hi, Int.toNat_natCast]
    unfold handF
    refine ev_pos (by omega) (ev_pos (by omega) (ev_eq (spec_IsCard_eq _) (ev_ite (fun h => ?_) (fun h => ev_ret ?_))))
    · refine ev_pos (by omega) (Ev.bind (spec_HasCard_ev _ _ ht) (ev_ite (fun h2 => ev_ret ?_) (fun h2 => ev_done (ih () trivial) ?_)))
      · rw [h2]; simp
      · rw [Bool.not_eq_true] at h2
        rw [h, h2, take_at l i hi]; simp
    · rw [Bool.not_eq_true] at h
      rw [h]; simp

theorem spec_l10Ok_ev (l : List Int) (hl : l.length ≤ 1048576000) : Ev (fun k => spec_l10Ok.f k l) (okM l) := by
  simp only [spec_l10Ok.f]
  refine Ev.bind (spec_IsHand_ev l hl) ?_
  unfold okM
  refine ev_ite (fun h => ?_) (fun h => ?_)
  · rw [h]
    exact ev_ret (by rw [Bool.true_and]; exact decide_eq_decide.2 (by omega))
  · rw [Bool.eq_false_iff.2 h]
    exact Ev.now _

theorem spec_l10Before_ev (a b : List Int) (ha : a.length ≤ 1048576000) : Ev (fun k => spec_l10Before.f k a b) (before a b) := by
  have key : ∀ (d i : Nat), i + d = a.length → Ev (fun k => spec_l10Before.l0 k a b (i : Int)) (before (a.drop i) (b.drop i)) := by
    intro d
    induction d with
    | zero =>
      intro i hd
      refine ev_unfold (fun k => rfl) ?_
      simp only [spec_l10Before.l0]
      refine ev_neg (by omega) (ev_unfold (fun k => rfl) ?_)
      simp only [spec_l10Before.j1]
      refine ev_neg (by simp) (ev_ret ?_)
      have e : a.drop i = [] := List.drop_of_length_le (by omega)
      rw [before_end (.inl e), List.length_drop, List.length_drop]
      exact decide_eq_decide.2 (by omega)
    | succ d ih =>
      intro i hd
      refine ev_unfold (fun k => rfl) ?_
      simp only [spec_l10Before.l0]
      refine ev_pos (by omega) (ev_unfold (fun k => rfl) ?_)
      simp only [spec_l10Before.j1]
      refine ev_ite (fun h => ?_) (fun h => ?_)
      · have hb : i < b.length := by have := of_decide_eq_true h; omega
        rw [w64next i (by omega), rd_at a i (by omega), rd_at b i hb, List.drop_eq_getElem_cons (by omega : i < a.length), List.drop_eq_getElem_cons hb]
        refine ev_pos (by omega) (ev_pos (by omega) (ev_pos (by omega) ?_))
        unfold before
        refine ev_ite (fun h2 => ?_) (fun h2 => ?_)
        · rw [if_pos h2]; exact ih (i + 1) (by omega)
        · rw [if_neg h2]; exact Ev.now _
      · have hb : b.length ≤ i := by
          rcases Nat.lt_or_ge i b.length with g | g
          · exact absurd (decide_eq_true (by omega)) h
          · exact g
        have e : b.drop i = [] := List.drop_of_length_le hb
        refine ev_ret ?_
        rw [before_end (.inr e), List.length_drop, List.length_drop]
        exact decide_eq_decide.2 (by omega)
  simp only [spec_l10Before.f]
  exact key a.length 0 (by omega)

theorem spec_l10Put_ev (s : List (List Int)) (x : List Int) (hs : s.length ≤ 1048576) (hx : x.length ≤ 1048576) : Ev (fun k => spec_l10Put.f k s x) (putR s x) := by
  have fin : ∀ q : Nat, q ≤ s.length → Ev (fun k => ((some (([] : List (List Int)) : List (List Int))).bind fun y140 => (if 0 ≤ (q : Int) then (if (q : Int) ≤ (s.length : Int) then ((some (s.take (q : Int).toNat : List (List Int))).bind fun y143 => (if y140.length + y143.length < 5864062014805 then ((some (y140 ++ y143 : List (List Int))).bind fun y148 => ((some (([x] : List (List Int)) : List (List Int))).bind fun y151 => (if y148.length + y151.length < 5864062014805 then ((some (y148 ++ y151 : List (List Int))).bind fun y154 => ((some (s.drop (q : Int).toNat : List (List Int))).bind fun y157 => (if y154.length + y157.length < 5864062014805 then (some (y154 ++ y157)) else (none)))) else (none)))) else (none))) else (none)) else (none)))) (insAt s q x) := by
    intro q hq
    simp only [Option.bind_some, Int.toNat_natCast, List.nil_append, List.length_nil]
    have e1 : (s.take q).length = q := by rw [List.length_take]; omega
    have e2 : (s.drop q).length = s.length - q := List.length_drop
    refine ev_pos (by omega) (ev_pos (by omega) (ev_pos (by omega) (ev_pos ?_ (ev_pos ?_ (ev_ret rfl)))))
    · rw [e1, List.length_singleton]; omega
    · rw [List.length_append, e1, e2, List.length_singleton]; omega
  have key : ∀ q : Nat, q ≤ s.length → Ev (fun k => spec_l10Put.l0 k s x (q : Int)) (insAt s (backR s x q) x) := by
    intro q
    induction q with
    | zero =>
      intro hq
      refine ev_unfold (fun k => rfl) ?_
      simp only [spec_l10Put.l0]
      exact ev_neg (by omega) (fin 0 hq)
    | succ q ih =>
      intro hq
      refine ev_unfold (fun k => rfl) ?_
      simp only [spec_l10Put.l0]
      have e1 : wrap64 (((q + 1 : Nat) : Int) - 1) = (q : Int) := by rw [w64 _ (by omega)]; omega
      rw [e1, rdss_at s q (by omega)]
      refine ev_pos (by omega) (ev_pos (by omega) (ev_pos (by omega) (Ev.bind (spec_l10Before_ev x s[q] (by omega)) ?_)))
      unfold backR
      rw [getD_at s q [] (by omega)]
      refine ev_ite (fun h => ?_) (fun h => ?_)
      · rw [if_pos h]; exact ih (by omega)
      · rw [if_neg h]; exact fin (q + 1) hq
  simp only [spec_l10Put.f]
  exact key s.length (Nat.le_refl _)

theorem spec_Without_ev (l : List Int) (c : Int) (hl : l.length ≤ 1048576000) : Ev (fun k => spec_Without.f k l c) (l.filter (fun y => decide (y ≠ c))) := by
  simp only [spec_Without.f]
  refine ev_done (ev_loop (fun k (s : List Int) i => spec_Without.l0 k l c s i) l (fun s r => s ++ r.filter (fun y => decide (y ≠ c))) (fun s i => s.length ≤ i) ?_ ?_ [] 0 (by omega) (Nat.le_refl _)) (by simp)
  · rintro s _
    refine ev_unfold (fun k => rfl) ?_
    simp only [spec_Without.l0]
    exact ev_neg (by omega) (ev_ret (by simp))
  · rintro s i hi hs ih
    refine ev_unfold (fun k => rfl) ?_
    simp only [spec_Without.l0]
    rw [w64next i (by omega), rd_at l i hi]
    refine ev_pos (by omega) (ev_pos (by omega) (ev_ite (fun h => ?_) (fun h => ev_pos (by omega) ?_)))
    · refine ev_done (ih s (by omega)) ?_
      rw [List.filter_cons, if_neg (by simpa using h)]
    · refine ev_done (ih (s ++ [l[i]]) (by simp; omega)) ?_
      rw [List.filter_cons, if_pos (decide_eq_true h), List.append_assoc]; rfl

theorem spec_SuitOf_eq (c : Int) : spec_SuitOf.f c = some (suitOf c) := by
  unfold spec_SuitOf.f suitOf
  rw [spec_IsCard_eq]
  simp only [Option.bind_some]
  by_cases h : isCard c = true
  · have h2 := (isCard_iff c).1 h
    rw [if_pos h, if_pos h, Int.tdiv_eq_ediv_of_nonneg h2.1, w64 _ (by omega)]
  · rw [if_neg h, if_neg h]

theorem spec_MeldsIn_same (l : List Int) (hl : l.length ≤ 1048576000) (o : List (List Int)) (r : Nat) (hr : r < 13) {R : List (List Int)}
    (h : Ev (fun k => (if ((sameOf l r).length : Int) ≥ 3 then ((spec_l10Put.f k o (sameOf l r)).bind fun t191 => (spec_MeldsIn.j2 k l t191 (r : Int) (sameOf l r))) else (spec_MeldsIn.j2 k l o (r : Int) (sameOf l r)))) R) : Ev (fun k => spec_MeldsIn.l1 k l o (r : Int) [] 0) R := by
  have key : ∀ (d i : Nat) (s : List Int), i + d = 4 → s.length ≤ i → s ++ ((List.range' i d).map fun (q : Nat) => (q : Int) * 13 + (r : Int)).filter (hasCard l) = sameOf l r → Ev (fun k => spec_MeldsIn.l1 k l o (r : Int) s (i : Int)) R := by
    intro d
    induction d with
    | zero =>
      intro i s hd hs e
      refine ev_unfold (fun k => rfl) ?_
      simp only [spec_MeldsIn.l1]
      rw [List.range'_zero, List.map_nil, List.filter_nil, List.append_nil] at e
      rw [e]
      exact ev_neg (by omega) h
    | succ d ih =>
      intro i s hd hs e
      refine ev_unfold (fun k => rfl) ?_
      simp only [spec_MeldsIn.l1]
      have e1 : wrap64 (wrap64 ((i : Int) * 13) + (r : Int)) = (i : Int) * 13 + (r : Int) := by rw [w64 ((i : Int) * 13) (by omega), w64 _ (by omega)]
      rw [e1, w64next i (by omega)]
      rw [List.range'_succ, List.map_cons, List.filter_cons] at e
      refine ev_pos (by omega) (Ev.bind (spec_HasCard_ev l _ hl) (ev_ite (fun g => ev_pos (by omega) ?_) (fun g => ?_)))
      · rw [if_pos g] at e
        exact ih (i + 1) _ (by omega) (by simp; omega) (by rw [List.append_assoc]; exact e)
      · rw [if_neg g] at e
        exact ih (i + 1) _ (by omega) (by omega) e
  exact key 4 0 [] (by omega) (Nat.le_refl _) (by rw [List.nil_append, ← List.range_eq_range']; rfl)
theorem spec_MeldsIn_set (l : List Int) (hl : l.length ≤ 1048576000) (o : List (List Int)) (r : Nat) (hr : r < 13) (ho : o.length ≤ 5 * r) (F : List (List Int) → List (List Int))
    (h : ∀ o', o'.length ≤ 5 * (r + 1) → Ev (fun k => spec_MeldsIn.l0 k l o' ((r + 1 : Nat) : Int)) (F o')) : Ev (fun k => spec_MeldsIn.l1 k l o (r : Int) [] 0) (F (putAll o (setPart l r))) := by
  have h4 := sameOf_le l r
  have two : ∀ o', o'.length ≤ 5 * r + 1 → Ev (fun k => spec_MeldsIn.j2 k l o' (r : Int) (sameOf l r)) (F (putAll o' (if (sameOf l r).length = 4 then (sameOf l r).map (fun c => (sameOf l r).filter (fun y => decide (y ≠ c))) else []))) := by
    intro o' ho'
    refine ev_unfold (fun k => rfl) ?_
    simp only [spec_MeldsIn.j2]
    by_cases e4 : (sameOf l r).length = 4
    · rw [if_pos e4]
      have key : ∀ (d i : Nat) (o2 : List (List Int)), i + d = 4 → o2.length ≤ 5 * r + 1 + i → Ev (fun k => spec_MeldsIn.l2 k l o2 (r : Int) (sameOf l r) (i : Int)) (F (putAll o2 (((sameOf l r).drop i).map (fun c => (sameOf l r).filter (fun y => decide (y ≠ c)))))) := by
        intro d
        induction d with
        | zero =>
          intro i o2 hd ho2
          refine ev_unfold (fun k => rfl) ?_
          simp only [spec_MeldsIn.l2]
          refine ev_neg (by omega) (ev_unfold (fun k => rfl) ?_)
          simp only [spec_MeldsIn.j4]
          rw [w64next r (by omega), List.drop_of_length_le (by omega)]
          exact ev_neg (by simp) (h o2 (by omega))
        | succ d ih =>
          intro i o2 hd ho2
          refine ev_unfold (fun k => rfl) ?_
          simp only [spec_MeldsIn.l2]
          refine ev_pos (by omega) (ev_unfold (fun k => rfl) ?_)
          simp only [spec_MeldsIn.j4]
          rw [w64next i (by omega), rd_at _ i (by omega)]
          have hf := List.length_filter_le (fun y => decide (y ≠ (sameOf l r)[i])) (sameOf l r)
          refine ev_pos (by rw [e4]; rfl) (ev_pos (by omega) (ev_pos (by omega) (Ev.bind (spec_Without_ev (sameOf l r) _ (by omega)) (Ev.bind (spec_l10Put_ev o2 _ (by omega) (by omega)) ?_))))
          rw [List.drop_eq_getElem_cons (by omega : i < (sameOf l r).length), List.map_cons]
          exact ih (i + 1) _ (by omega) (by rw [putR_length]; omega)
      exact key 4 0 o' (by omega) (by omega)
    · rw [if_neg e4]
      refine ev_unfold (fun k => rfl) ?_
      simp only [spec_MeldsIn.l2]
      have fin : Ev (fun k => spec_MeldsIn.j4 k l o' (r : Int) (sameOf l r) 0 false) (F (putAll o' [])) := by
        refine ev_unfold (fun k => rfl) ?_
        simp only [spec_MeldsIn.j4]
        rw [w64next r (by omega)]
        exact ev_neg (by simp) (h o' (by omega))
      refine ev_ite (fun _ => ?_) (fun _ => fin)
      have : (((sameOf l r).length : Int) == 4) = false := by rw [beq_eq_false_iff_ne]; omega
      rw [this]; exact fin
  refine spec_MeldsIn_same l hl o r hr ?_
  unfold setPart
  refine ev_ite (fun g => ?_) (fun g => ?_)
  · rw [if_pos (by omega)]
    refine Ev.bind (spec_l10Put_ev o _ (by omega) (by omega)) ?_
    exact two (putR o (sameOf l r)) (by rw [putR_length]; omega)
  · rw [if_neg (by omega)]
    exact two o (by omega)
theorem spec_MeldsIn_run (l : List Int) (hl : l.length ≤ 1048576000) (hc : ∀ y ∈ l, isCard y = true) (c : Nat) (h52 : c < 52) (F : List (List Int) → List (List Int))
    (h : ∀ o', o'.length ≤ 65 + 53 * (c + 1) → Ev (fun k => spec_MeldsIn.l3 k l o' ((c + 1 : Nat) : Int)) (F o')) : ∀ (n : Nat) (run : List Int) (o : List (List Int)), run.length + n = 53 → o.length ≤ 65 + 53 * c + run.length →
    Ev (fun k => spec_MeldsIn.l4 k l o (c : Int) run ((c : Int) + (run.length : Int))) (F (putAll o (runP l (c : Int) n run ((c : Int) + (run.length : Int))))) := by
  have stop : ∀ (run : List Int) (x : Int) (o : List (List Int)), o.length ≤ 65 + 53 * (c + 1) → Ev (fun k => spec_MeldsIn.j7 k l o (c : Int) run x false) (F (putAll o [])) := by
    intro run x o ho
    refine ev_unfold (fun k => rfl) ?_
    simp only [spec_MeldsIn.j7]
    rw [w64next c (by omega)]
    exact ev_neg (by simp) (h o ho)
  intro n
  induction n with
  | zero =>
    intro run o hn ho
    refine ev_unfold (fun k => rfl) ?_
    simp only [spec_MeldsIn.l4]
    refine Ev.bind (spec_HasCard_ev l _ hl) (ev_neg ?_ ?_)
    · intro g
      have := (isCard_iff _).1 (hc _ (of_decide_eq_true g))
      omega
    · exact stop run _ o (by omega)
  | succ n ih =>
    intro run o hn ho
    refine ev_unfold (fun k => rfl) ?_
    simp only [spec_MeldsIn.l4, spec_SuitOf_eq, Option.bind_some]
    refine Ev.bind (spec_HasCard_ev l _ hl) ?_
    unfold runP
    refine ev_ite (fun g => ?_) (fun g => ?_)
    · by_cases g2 : suitOf ((c : Int) + (run.length : Int)) = suitOf (c : Int)
      · rw [if_pos ⟨g, g2⟩, beq_iff_eq.2 g2]
        refine ev_unfold (fun k => rfl) ?_
        simp only [spec_MeldsIn.j7, Option.bind_some, List.nil_append, List.length_nil, List.length_append, List.length_singleton]
        have e1 : wrap64 ((c : Int) + (run.length : Int) + 1) = (c : Int) + ((run ++ [(c : Int) + (run.length : Int)]).length : Int) := by rw [w64 _ (by omega)]; simp; omega
        have e2 : (c : Int) + (run.length : Int) + 1 = (c : Int) + ((run ++ [(c : Int) + (run.length : Int)]).length : Int) := by simp; omega
        have e3 : (run ++ [(c : Int) + (run.length : Int)]).length = run.length + 1 := by simp
        rw [e1, e2]
        refine ev_pos (by first | trivial | rfl) (ev_pos (by omega) (ev_ite (fun g3 => ?_) (fun g3 => ?_)))
        · rw [if_pos (by omega)]
          refine ev_pos (by omega) (Ev.bind (spec_l10Put_ev o _ (by omega) (by omega)) ?_)
          exact ih _ _ (by omega) (by rw [putR_length]; omega)
        · rw [if_neg (by omega)]
          exact ih _ _ (by omega) (by omega)
      · rw [if_neg (fun z => g2 z.2), beq_eq_false_iff_ne.2 g2]
        exact stop run _ o (by omega)
    · rw [if_neg (fun z => g z.1)]
      exact stop run _ o (by omega)
theorem putAll_len (s l : List (List Int)) : (putAll s l).length = s.length + l.length := by rw [(putAll_perm l s).length_eq, List.length_append]
theorem putAll_app (s a b : List (List Int)) : putAll s (a ++ b) = putAll (putAll s a) b := List.foldl_append
theorem spec_MeldsIn_ev (l : List Int) (hl : l.length ≤ 1048576000) : Ev (fun k => spec_MeldsIn.f k l) (meldsIn l) := by
  simp only [spec_MeldsIn.f, Option.bind_some]
  refine Ev.bind (spec_l10Ok_ev l hl) ?_
  unfold meldsIn
  refine ev_ite (fun g => ?_) (fun g => ?_)
  · rw [if_pos g]
    have hand : isHand l = true := by unfold okM at g; rw [Bool.and_eq_true] at g; exact g.1
    have hc := ((isHand_iff l).1 hand).1
    rw [← melds_same hand]
    have runs : ∀ (d c : Nat) (o : List (List Int)), c + d = 52 → o.length ≤ 65 + 53 * c → Ev (fun k => spec_MeldsIn.l3 k l o (c : Int)) (putAll o ((List.range' c d).flatMap (fun (c : Nat) => runP l (c : Int) 53 [] (c : Int)))) := by
      intro d
      induction d with
      | zero =>
        intro c o hd ho
        refine ev_unfold (fun k => rfl) ?_
        simp only [spec_MeldsIn.l3]
        exact ev_neg (by omega) (Ev.now _)
      | succ d ih =>
        intro c o hd ho
        refine ev_unfold (fun k => rfl) ?_
        simp only [spec_MeldsIn.l3]
        rw [List.range'_succ, List.flatMap_cons, putAll_app]
        have := spec_MeldsIn_run l hl hc c (by omega) (fun o' => putAll o' ((List.range' (c + 1) d).flatMap (fun (c : Nat) => runP l (c : Int) 53 [] (c : Int)))) (fun o' ho' => ih (c + 1) o' (by omega) ho') 53 [] o rfl (by simpa using ho)
        rw [List.length_nil, show (c : Int) + ((0 : Nat) : Int) = (c : Int) by omega] at this
        exact ev_pos (by omega) this
    have sets : ∀ (d r : Nat) (o : List (List Int)), r + d = 13 → o.length ≤ 5 * r → Ev (fun k => spec_MeldsIn.l0 k l o (r : Int)) (putAll o ((List.range' r d).flatMap (setPart l) ++ (List.range 52).flatMap (fun (c : Nat) => runP l (c : Int) 53 [] (c : Int)))) := by
      intro d
      induction d with
      | zero =>
        intro r o hd ho
        refine ev_unfold (fun k => rfl) ?_
        simp only [spec_MeldsIn.l0]
        rw [List.range'_zero, List.flatMap_nil, List.nil_append, List.range_eq_range']
        exact ev_neg (by omega) (runs 52 0 o (by omega) (by omega))
      | succ d ih =>
        intro r o hd ho
        refine ev_unfold (fun k => rfl) ?_
        simp only [spec_MeldsIn.l0]
        rw [List.range'_succ, List.flatMap_cons, List.append_assoc, putAll_app]
        exact ev_pos (by omega) (spec_MeldsIn_set l hl o r (by omega) ho (fun o' => putAll o' ((List.range' (r + 1) d).flatMap (setPart l) ++ (List.range 52).flatMap (fun (c : Nat) => runP l (c : Int) 53 [] (c : Int)))) (fun o' ho' => ih (r + 1) o' (by omega) ho'))
    have := sets 13 0 [] (by omega) (by simp)
    rw [← List.range_eq_range'] at this
    exact this
  · rw [if_neg g]
    exact Ev.now _

theorem spec_Min_eq (a b : Int) : spec_Min.f a b = some (min a b) := by
  unfold spec_Min.f
  split <;> (congr 1; omega)

theorem spec_RankOf_eq (c : Int) : spec_RankOf.f c = some (rankOf c) := by
  unfold spec_RankOf.f rankOf
  rw [spec_IsCard_eq]
  simp only [Option.bind_some]
  by_cases h : isCard c = true
  · rw [if_pos h, if_pos h, Int.tmod_eq_emod_of_nonneg ((isCard_iff c).1 h).1]
  · rw [if_neg h, if_neg h]

theorem spec_ValueOf_eq (c : Int) : spec_ValueOf.f c = some (valueOf c) := by
  unfold spec_ValueOf.f valueOf
  rw [spec_RankOf_eq]
  have hr := rankOf_range c
  simp only [Option.bind_some]
  rw [w64 (rankOf c + 2) (by omega)]
  repeat' split
  all_goals first | rfl | omega

theorem spec_l10Sum_ev (l : List Int) (hl : l.length ≤ 1048576000) : Ev (fun k => spec_l10Sum.f k l) (valW 0 l) := by
  simp only [spec_l10Sum.f]
  refine ev_done (ev_loop (fun k (s : Int) i => spec_l10Sum.l0 k l s i) l (fun s r => valW s r) (fun _ _ => True) ?_ ?_ 0 0 (by omega) trivial) rfl
  · rintro s _
    refine ev_unfold (fun k => rfl) ?_
    simp only [spec_l10Sum.l0]
    exact ev_neg (by omega) (ev_ret rfl)
  · rintro s i hi _ ih
    refine ev_unfold (fun k => rfl) ?_
    simp only [spec_l10Sum.l0, spec_ValueOf_eq, Option.bind_some]
    rw [w64next i (by omega), rd_at l i hi]
    exact ev_pos (by omega) (ev_pos (by omega) (ih _ trivial))

theorem spec_l10Minus_ev (l m : List Int) (hl : l.length ≤ 1048576000) (hm : m.length ≤ 1048576000) : Ev (fun k => spec_l10Minus.f k l m) (minusF l m) := by
  simp only [spec_l10Minus.f]
  refine ev_done (ev_loop (fun k (s : List Int) i => spec_l10Minus.l0 k m s i) m (fun s r => minusF s r) (fun s _ => s.length ≤ 1048576000) ?_ ?_ l 0 (by omega) hl) rfl
  · rintro s _
    refine ev_unfold (fun k => rfl) ?_
    simp only [spec_l10Minus.l0]
    exact ev_neg (by omega) (ev_ret rfl)
  · rintro s i hi hs ih
    refine ev_unfold (fun k => rfl) ?_
    simp only [spec_l10Minus.l0]
    rw [w64next i (by omega), rd_at m i hi]
    exact ev_pos (by omega) (ev_pos (by omega) (Ev.bind (spec_Without_ev s _ hs) (ih _ (Nat.le_trans (List.length_filter_le _ _) hs))))

theorem spec_l10Least_ev (M : List (List Int)) (hM : M.length ≤ 1048576000) (hm : ∀ m ∈ M, m.Nodup ∧ m.length ≤ 1048576000) : ∀ (d i : Nat), i + d = M.length → ∀ (l : List Int) (o : Int), l.Nodup → l.length ≤ 1048576000 → Ev (fun k => spec_l10Least.l0 k l M o (i : Int)) (leastF (M.drop i) l o) := by
  intro d
  induction d with
  | zero =>
    intro i hd l o hn hl
    refine ev_unfold (fun k => rfl) ?_
    simp only [spec_l10Least.l0]
    rw [List.drop_of_length_le (by omega)]
    exact ev_neg (by omega) (Ev.now _)
  | succ d ih =>
    intro i hd l o hn hl
    have hi : i < M.length := by omega
    refine ev_unfold (fun k => rfl) ?_
    simp only [spec_l10Least.l0, spec_Min_eq, Option.bind_some]
    rw [w64next i (by omega), rdss_at M i hi, List.drop_eq_getElem_cons hi]
    obtain ⟨g1, g2⟩ := hm _ (List.getElem_mem hi)
    have hle := minus_le l M[i]
    have hnd := minus_nodup hn M[i]
    have hw := whole_len M[i] hn g1
    refine ev_pos (by omega) (ev_pos (by omega) (Ev.bind (spec_l10Minus_ev l M[i] hl g2) ?_))
    unfold leastF
    rw [w64 _ (by omega)]
    refine ev_ite (fun h => ?_) (fun h => ?_)
    · rw [if_pos (hw.2 (by omega))]
      refine Ev.bind (ev_unfold (fun k => rfl) (f := fun k => (spec_l10Sum.f k (minusF l M[i])).bind fun t229 => (spec_l10Least.l0 k (minusF l M[i]) M t229 ((i + 1 : Nat) : Int))) (Ev.bind (spec_l10Sum_ev (minusF l M[i]) (by omega)) (ih (i + 1) (by omega) _ _ hnd (by omega)))) ?_
      exact ih (i + 1) (by omega) l _ hn hl
    · rw [if_neg (fun h2 => h (by have := hw.1 h2; omega))]
      exact ih (i + 1) (by omega) l o hn hl

theorem okM_iff (l : List Int) (h : okM l = true) : isHand l = true ∧ l.Nodup ∧ l.length ≤ 12 := by
  unfold okM at h
  rw [Bool.and_eq_true, decide_eq_true_eq] at h
  exact ⟨h.1, ((isHand_iff l).1 h.1).2, h.2⟩
theorem meldsIn_nodup (l : List Int) : ∀ m ∈ meldsIn l, m.Nodup ∧ m.length ≤ 1048576000 := by
  intro m hm
  have hs := (meldsIn_small l).2.2 m hm
  unfold meldsIn at hm
  split at hm
  · rename_i h
    exact ⟨asc_nodup ((meldsOf_mem (okM_iff l h).1).1 hm).1, by omega⟩
  · cases hm
theorem spec_LeftOver_ev (l : List Int) (hl : l.length ≤ 1048576000) : Ev (fun k => spec_LeftOver.f k l) (leftOver l) := by
  simp only [spec_LeftOver.f]
  refine Ev.bind (spec_l10Ok_ev l hl) ?_
  unfold leftOver
  refine ev_ite (fun h => ?_) (fun h => ?_)
  · rw [if_pos h]
    obtain ⟨h1, h2, h3⟩ := okM_iff l h
    have hs := meldsIn_small l
    refine Ev.bind (spec_MeldsIn_ev l hl) (Ev.bind (ev_unfold (fun k => rfl) (f := fun k => (spec_l10Sum.f k l).bind fun t229 => (spec_l10Least.l0 k l (meldsIn l) t229 0)) (Ev.bind (spec_l10Sum_ev l hl) ?_)) (Ev.now _))
    exact spec_l10Least_ev (meldsIn l) (by omega) (meldsIn_nodup l) (meldsIn l).length 0 (by omega) l _ h2 hl
  · rw [if_neg h]
    exact Ev.now _

theorem spec_CanGoOut_ev (l : List Int) (hl : l.length ≤ 1048576000) : Ev (fun k => spec_CanGoOut.f k l) (leftOver l == 0) := by
  simp only [spec_CanGoOut.f]
  exact Ev.bind (spec_LeftOver_ev l hl) (Ev.now _)

theorem FnExactCanGoOut : laws_FnExactCanGoOut.Pure := by
  intro l _ _ _
  refine Ev.rounds ?_
  simp only [laws_FnExactCanGoOut.f]
  refine ev_ite (fun _ => Ev.now _) (fun h => ?_)
  have hl : l.length ≤ 1048576000 := by omega
  refine Ev.bind (laws_toIntS_ev l hl) (Ev.bind (spec_CanGoOut_ev l hl) (Ev.bind (laws_toIntS_ev l hl) (Ev.bind (impl_CanGoOut_ev l hl) (ev_neg (by simp) ?_))))
  exact Ev.bind (laws_toIntS_ev l hl) (Ev.bind (laws_eqIntS_ev l l (by omega)) (ev_pos (by simp) (Ev.now _)))

end Go.Proofs.Ytecjbogconeilaa.Pure
