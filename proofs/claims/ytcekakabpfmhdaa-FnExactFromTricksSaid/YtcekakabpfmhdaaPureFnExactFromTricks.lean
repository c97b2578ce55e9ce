/- In the given program FnExactFromTricks answers true for every input, by what its functions compute; no condition. -/
import Derived.Test.YtcekakabpfmhdaaPFnExactFromTricksx2
import Derived.Test.YtcekakabpfmhdaaLib
import Derived.Test.YtcekakabpfmhdaaCards
namespace Go.Proofs.Ytcekakabpfmhdaa.Pure
open Go.RowKit Go.Proofs.Ytcekakabpfmhdaa.PFnExactFromTricks Go.Proofs.YtcekakabpfmhdaaW.PrintWords Go.Proofs.YtcekakabpfmhdaaW.PrintLast Go.Proofs.YtcekakabpfmhdaaW.PrintMore Go.Proofs.Ytcekakabpfmhdaa.Lib
set_option linter.unusedVariables false
set_option linter.unusedSimpArgs false

theorem laws_toIntS_ev (l : List Int) (hl : l.length ≤ 1048576) : Ev (fun k => laws_toIntS.f k l) l := by
  simp only [laws_toIntS.f]
  refine ev_pos (by omega) (ev_pos (by omega) ?_)
  refine ev_loop (fun k (s : List Int) i => laws_toIntS.l0 k l s i) l (fun _ _ => l) (fun s i => s.length = l.length ∧ s.take i = l.take i) ?_ ?_ _ 0 (by omega) ⟨by simp, by simp⟩
  · rintro s ⟨h1, h2⟩
    refine ev_unfold (fun k => rfl) ?_
    simp only [laws_toIntS.l0]
    refine ev_neg (by omega) (ev_ret ?_)
    rw [List.take_of_length_le (by omega), List.take_of_length_le (by omega)] at h2
    exact h2
  · rintro s i hi ⟨h1, h2⟩ ih
    refine ev_unfold (fun k => rfl) ?_
    simp only [laws_toIntS.l0]
    refine ev_pos (by omega) (ev_pos (by omega) (ev_pos (by omega) ?_))
    rw [w64next i (by omega), rd_at l i hi, Int.toNat_natCast]
    refine ih _ ⟨by simpa using h1, ?_⟩
    apply List.ext_getElem
    · simp; omega
    · intro j hj1 hj2
      simp at hj1 hj2
      simp only [List.getElem_take, List.getElem_set]
      by_cases hij : i = j
      · subst hij; simp
      · rw [if_neg hij]
        have h3 : (s.take i)[j]'(by simp; omega) = (l.take i)[j]'(by simp; omega) := by simp only [h2]
        simpa using h3

theorem laws_eqIntS_ev (a b : List Int) (ha : a.length ≤ 1048576000) : Ev (fun k => laws_eqIntS.f k a b) (decide (a = b)) := by
  simp only [laws_eqIntS.f]
  refine ev_ite (fun hlen => ?_) (fun hne => ev_ret ?_)
  · have hlen' : a.length = b.length := by omega
    have h := ev_loop (fun k (_ : Unit) i => laws_eqIntS.l0 k a b i) a (fun _ r => decide (r = b.drop (a.length - r.length))) (fun _ _ => True) ?_ ?_ () 0 (by omega) trivial
    · refine ev_done h ?_
      simp
    · rintro _ _
      refine ev_unfold (fun k => rfl) ?_
      simp only [laws_eqIntS.l0]
      refine ev_neg (by omega) (ev_ret ?_)
      rw [List.length_nil, Nat.sub_zero, hlen', drop_end]
      simp
    · rintro _ i hi _ ih
      refine ev_unfold (fun k => rfl) ?_
      simp only [laws_eqIntS.l0]
      refine ev_pos (by omega) (ev_pos (by omega) (ev_pos (by omega) ?_))
      rw [w64next i (by omega), rd_at a i hi, rd_at b i (by omega)]
      have e1 : a.length - (a[i] :: a.drop (i + 1)).length = i := by simp; omega
      have e2 : a.length - (a.drop (i + 1)).length = i + 1 := by simp; omega
      refine ev_ite (fun heq => ?_) (fun hne => ev_ret ?_)
      · refine ev_done (ih () trivial) ?_
        rw [e1, e2, drop_at b i (by omega), heq]
        exact decide_eq_decide.2 ⟨fun h => by rw [h], fun h => (List.cons.inj h).2⟩
      · rw [e1, drop_at b i (by omega)]
        exact (decide_eq_false (fun h => hne (List.cons.inj h).1)).symm
  · have : a ≠ b := by rintro rfl; exact hne rfl
    simp [this]

theorem spec_l1In_eq (n a b : Int) : spec_l1In.f n a b = some (inR n a b) := by
  unfold spec_l1In.f inR
  by_cases h : a ≤ n
  · rw [if_pos (by omega)]; simp [h]
  · rw [if_neg (by omega)]; simp [h]

theorem spec_FromTricks_ev (l : List Int) (hl : l.length ≤ 1048576) : Ev (fun k => spec_FromTricks.f k l) (fromTricks l) := by
  have l1 : ∀ n : Int, Ev (fun k => spec_FromTricks.l1 k l n [] 0) (if inR (l.length : Int) 2 6 = true then l.map (fun x => wrap64 (wrap64 ((l.length : Int) * x) - n)) else []) := by
    intro n
    refine ev_loop (fun k (s : List Int) i => spec_FromTricks.l1 k l n s i) l (fun s r => if inR (l.length : Int) 2 6 = true then s ++ r.map (fun x => wrap64 (wrap64 ((l.length : Int) * x) - n)) else s) (fun s i => s.length = i) ?_ ?_ [] 0 (by omega) rfl
    · rintro s hs
      refine ev_unfold (fun k => rfl) ?_
      simp only [spec_FromTricks.l1]
      refine ev_neg (by omega) (ev_ret ?_)
      simp
    · rintro s i hi hs ih
      refine ev_unfold (fun k => rfl) ?_
      simp only [spec_FromTricks.l1, spec_l1In_eq, Option.bind_some]
      refine ev_pos (by omega) ?_
      rw [w64next i (by omega), rd_at l i hi]
      refine ev_ite (fun h => ?_) (fun h => ?_)
      · refine ev_pos (by omega) (ev_pos (by omega) ?_)
        refine ev_done (ih _ (by simp [hs])) ?_
        simp only [h, if_true, List.map_cons, List.append_assoc, List.singleton_append]
      · refine ev_ret ?_
        rw [if_neg h]
  simp only [spec_FromTricks.f]
  refine ev_done (ev_loop (fun k (s : Int) i => spec_FromTricks.l0 k l s i) l (fun s r => if (r.all fun x => inR x 0 200) = true then (if inR (l.length : Int) 2 6 = true then l.map (fun x => wrap64 (wrap64 ((l.length : Int) * x) - wsum s r)) else []) else []) (fun _ _ => True) ?_ ?_ 0 0 (by omega) trivial) ?_
  · rintro s _
    refine ev_unfold (fun k => rfl) ?_
    simp only [spec_FromTricks.l0]
    refine ev_neg (by omega) ?_
    simp only [List.all_nil, if_true]
    exact l1 s
  · rintro s i hi _ ih
    refine ev_unfold (fun k => rfl) ?_
    simp only [spec_FromTricks.l0, spec_l1In_eq, Option.bind_some]
    refine ev_pos (by omega) (ev_pos (by omega) ?_)
    rw [w64next i (by omega), rd_at l i hi, List.all_cons]
    refine ev_ite (fun h => ?_) (fun h => ?_)
    · rw [h, Bool.true_and]; exact ih _ trivial
    · rw [Bool.not_eq_true] at h
      rw [h, Bool.false_and]; exact Ev.now _
  · unfold fromTricks
    by_cases h1 : (l.all fun x => inR x 0 200) = true
    · by_cases h2 : inR (l.length : Int) 2 6 = true
      · rw [List.drop_zero, if_pos h1, if_pos h2, if_pos ⟨h2, h1⟩]
      · rw [List.drop_zero, if_pos h1, if_neg h2, if_neg (fun h => h2 h.1)]
    · rw [List.drop_zero, if_neg h1, if_neg (fun h => h1 h.2)]

theorem impl_InRange_eq (n a b : Int) : impl_InRange.f n a b = some (inR n a b) := by
  unfold impl_InRange.f inR
  by_cases h : a ≤ n
  · rw [if_pos (by omega)]; simp [h]
  · rw [if_neg (by omega)]; simp [h]

theorem impl_allIn_ev (l : List Int) (a b : Int) (hl : l.length ≤ 1048576) : Ev (fun k => impl_allIn.f k l a b) (l.all fun x => inR x a b) := by
  simp only [impl_allIn.f]
  refine ev_loop (fun k (_ : Unit) i => impl_allIn.l0 k a b l (l.length : Int) i) l (fun _ r => r.all fun x => inR x a b) (fun _ _ => True) ?_ ?_ () 0 (by omega) trivial
  · rintro s _
    refine ev_unfold (fun k => rfl) ?_
    simp only [impl_allIn.l0]
    exact ev_neg (by omega) (ev_ret rfl)
  · rintro s i hi _ ih
    refine ev_unfold (fun k => rfl) ?_
    simp only [impl_allIn.l0]
    refine ev_pos (by omega) (ev_pos (by omega) (ev_pos (by omega) (ev_eq (impl_InRange_eq _ _ _) ?_)))
    rw [w64next i (by omega), rd_at l i hi, List.all_cons]
    refine ev_ite (fun h => ?_) (fun h => ?_)
    · rw [h, Bool.true_and]; exact ih () trivial
    · rw [Bool.not_eq_true] at h
      rw [h, Bool.false_and]; exact Ev.now _

theorem impl_sum_ev (l : List Int) (hl : l.length ≤ 1048576) : Ev (fun k => impl_sum.f k l) (wsum 0 l) := by
  simp only [impl_sum.f]
  refine ev_loop (fun k (s : Int) i => impl_sum.l0 k s l (l.length : Int) i) l (fun s r => wsum s r) (fun _ _ => True) ?_ ?_ 0 0 (by omega) trivial
  · rintro s _
    refine ev_unfold (fun k => rfl) ?_
    simp only [impl_sum.l0]
    exact ev_neg (by omega) (ev_ret rfl)
  · rintro s i hi _ ih
    refine ev_unfold (fun k => rfl) ?_
    simp only [impl_sum.l0]
    refine ev_pos (by omega) (ev_pos (by omega) (ev_pos (by omega) ?_))
    rw [w64next i (by omega), rd_at l i hi]
    exact ih _ trivial

theorem impl_FromTricks_ev (l : List Int) (hl : l.length ≤ 1048576) : Ev (fun k => impl_FromTricks.f k l) (fromTricks l) := by
  have l0 : Ev (fun k => impl_FromTricks.l0 k l [] l (l.length : Int) 0) (l.map (fun x => wrap64 (wrap64 ((l.length : Int) * x) - wsum 0 l))) := by
    refine ev_loop (fun k (s : List Int) i => impl_FromTricks.l0 k l s l (l.length : Int) i) l (fun s r => s ++ r.map (fun x => wrap64 (wrap64 ((l.length : Int) * x) - wsum 0 l))) (fun s i => s.length = i) ?_ ?_ [] 0 (by omega) rfl
    · rintro s hs
      refine ev_unfold (fun k => rfl) ?_
      simp only [impl_FromTricks.l0]
      refine ev_neg (by omega) (ev_ret ?_)
      simp
    · rintro s i hi hs ih
      refine ev_unfold (fun k => rfl) ?_
      simp only [impl_FromTricks.l0]
      refine ev_pos (by omega) (ev_pos (by omega) (ev_pos (by omega) (Ev.bind (impl_sum_ev l hl) (ev_pos (by omega) ?_))))
      rw [w64next i (by omega), rd_at l i hi]
      refine ev_done (ih _ (by simp [hs])) ?_
      simp only [List.map_cons, List.append_assoc, List.singleton_append]
  have j0 : ∀ b, Ev (fun k => impl_FromTricks.j0 k l b) (if b = true then [] else l.map (fun x => wrap64 (wrap64 ((l.length : Int) * x) - wsum 0 l))) := by
    intro b
    refine ev_unfold (fun k => rfl) ?_
    simp only [impl_FromTricks.j0]
    refine ev_ite (fun h => ?_) (fun h => ?_)
    · rw [if_pos h]; exact Ev.now _
    · rw [if_neg h]; exact l0
  simp only [impl_FromTricks.f, impl_InRange_eq, Option.bind_some]
  unfold fromTricks
  refine ev_ite (fun h => ?_) (fun h => ?_)
  · refine Ev.bind (impl_allIn_ev l _ _ hl) ?_
    refine ev_done (j0 _) ?_
    cases hh : (l.all fun x => inR x 0 200) <;> simp [h]
  · refine ev_done (j0 _) ?_
    simp [h]

theorem laws_markIntS_ev (l : List Int) (a : Int) (hl : l.length ≤ 1073741824) (ha : 0 ≤ a ∧ a ≤ 1073741824) : Ev (fun k => laws_markIntS.f k l a) (a + (l.length : Int), marks a l.length) := by
  simp only [laws_markIntS.f]
  refine ev_loop (fun k (s : List Int × Int) i => laws_markIntS.l0 k s.1 s.2 i) l (fun _ _ => (a + (l.length : Int), marks a l.length)) (fun s i => s.1.length = l.length ∧ s.2 = a + i ∧ s.1.take i = marks a i) ?_ ?_ (l, a) 0 (by omega) ⟨rfl, by simp, by simp [marks]⟩
  · rintro ⟨s, n⟩ ⟨h1, h2, h3⟩
    simp only at h1 h2 h3
    refine ev_unfold (fun k => rfl) ?_
    simp only [laws_markIntS.l0]
    refine ev_neg (by omega) (ev_ret ?_)
    rw [List.take_of_length_le (by omega)] at h3
    rw [h2, h3]
  · rintro ⟨s, n⟩ i hi ⟨h1, h2, h3⟩ ih
    simp only at h1 h2 h3
    refine ev_unfold (fun k => rfl) ?_
    simp only [laws_markIntS.l0]
    refine ev_pos (by omega) (ev_pos (by omega) ?_)
    rw [w64next i (by omega), Int.toNat_natCast, w64 (n + 1) (by omega)]
    refine ih (s.set i n, n + 1) ⟨by simpa using h1, by simp only; omega, ?_⟩
    simp only [h2]
    exact marks_step a s i (by omega) h3

theorem laws_heldIntS_ev (n : Nat) (a : Int) (hn : n ≤ 1073741824) (ha : 0 ≤ a ∧ a ≤ 1073741824) : Ev (fun k => laws_heldIntS.f k (marks a n) a) (a + (n : Int)) := by
  have hl := marks_length a n
  simp only [laws_heldIntS.f]
  refine ev_loop (fun k (s : Int) i => laws_heldIntS.l0 k (marks a n) s i) (marks a n) (fun _ _ => a + (n : Int)) (fun s i => s = a + i) ?_ ?_ a 0 (by omega) (by simp)
  · rintro s h
    refine ev_unfold (fun k => rfl) ?_
    simp only [laws_heldIntS.l0]
    refine ev_neg (by omega) (ev_ret ?_)
    rw [h, hl]
  · rintro s i hi h ih
    refine ev_unfold (fun k => rfl) ?_
    simp only [laws_heldIntS.l0]
    refine ev_pos (by omega) (ev_pos (by omega) ?_)
    rw [w64next i (by omega), rd_at _ i hi, marks_at, w64 (s + 1) (by omega)]
    refine ev_pos h.symm (ih _ (by omega))

theorem FnExactFromTricks : laws_FnExactFromTricks.Pure := by
  intro l _ _ _
  refine Ev.rounds ?_
  simp only [laws_FnExactFromTricks.f]
  refine ev_ite (fun _ => Ev.now _) (fun h => ?_)
  have hl : l.length ≤ 1048576 := by omega
  have hg := fromTricks_length l
  have eqs := laws_eqIntS_ev (fromTricks l) (fromTricks l) (by omega)
  have j0 : Ev (fun k => laws_FnExactFromTricks.j0 k l (fromTricks l) (fromTricks l) false) true := by
    refine ev_unfold (fun k => rfl) ?_
    simp only [laws_FnExactFromTricks.j0]
    refine ev_neg (by simp) (Ev.bind (laws_markIntS_ev _ 1 (by omega) (by omega)) (Ev.bind (laws_heldIntS_ev _ 1 (by omega) (by omega)) (ev_neg (by omega) (ev_pos rfl ?_))))
    refine Ev.bind (laws_toIntS_ev l hl) (Ev.bind (impl_FromTricks_ev l hl) (Ev.bind eqs (ev_pos (by simp) ?_)))
    exact Ev.bind (laws_heldIntS_ev _ 1 (by omega) (by omega)) (ev_neg (by omega) (ev_pos rfl (Ev.now _)))
  refine Ev.bind (laws_toIntS_ev l hl) (Ev.bind (spec_FromTricks_ev l hl) (Ev.bind (laws_toIntS_ev l hl) (Ev.bind (impl_FromTricks_ev l hl) (Ev.bind eqs (ev_pos (by simp) ?_)))))
  refine Ev.bind (laws_toIntS_ev l hl) (Ev.bind (laws_eqIntS_ev l l (by omega)) (ev_pos (by simp) ?_))
  refine Ev.bind (laws_markIntS_ev l 1 (by omega) (by omega)) (ev_neg (by simp only; omega) (Ev.bind eqs ?_))
  refine ev_done (Ev.congr (fun k => ?_) j0) rfl
  simp

end Go.Proofs.Ytcekakabpfmhdaa.Pure
