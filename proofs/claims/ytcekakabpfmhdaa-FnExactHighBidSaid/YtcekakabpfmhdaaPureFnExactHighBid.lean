/- In the given program FnExactHighBid answers true for every input, by what its functions compute; no condition. -/
import Derived.Test.YtcekakabpfmhdaaPFnExactHighBidx1
import Derived.Test.YtcekakabpfmhdaaLib
namespace Go.Proofs.Ytcekakabpfmhdaa.Pure
open Go.RowKit Go.Proofs.Ytcekakabpfmhdaa.PFnExactHighBid Go.Proofs.YtcekakabpfmhdaaW.PrintWords Go.Proofs.YtcekakabpfmhdaaW.PrintLast Go.Proofs.YtcekakabpfmhdaaW.PrintMore Go.Proofs.Ytcekakabpfmhdaa.Lib
set_option linter.unusedVariables false
set_option linter.unusedSimpArgs false

theorem spec_Max_eq (a b : Int) : spec_Max.f a b = some (max a b) := by
  unfold spec_Max.f
  split <;> (congr 1; omega)

theorem spec_HighBid_ev (l : List Int) (hl : l.length ≤ 1048576) : Ev (fun k => spec_HighBid.f k l) (l.foldl max 0) := by
  simp only [spec_HighBid.f]
  refine ev_loop (fun k (s : Int) i => spec_HighBid.l0 k l s i) l (fun s r => r.foldl max s) (fun _ _ => True) ?_ ?_ 0 0 (by omega) trivial
  · rintro s _
    refine ev_unfold (fun k => rfl) ?_
    simp only [spec_HighBid.l0]
    exact ev_neg (by omega) (ev_ret rfl)
  · rintro s i hi _ ih
    refine ev_unfold (fun k => rfl) ?_
    simp only [spec_HighBid.l0]
    refine ev_pos (by omega) (ev_pos (by omega) (ev_eq (spec_Max_eq _ _) ?_))
    rw [w64next i (by omega), rd_at l i hi]
    exact ih _ trivial

theorem laws_toIntS_ev (l : List Int) (hl : l.length ≤ 1048576) : Ev (fun k => laws_toIntS.f k l) l := by
  simp only [laws_toIntS.f]
  refine ev_pos (by omega) (ev_pos (by omega) ?_)
  refine ev_loop (fun k (s : List Int) i => laws_toIntS.l0 k l s i) l (fun _ _ => l) (fun s i => s.length = l.length ∧ s.take i = l.take i) ?_ ?_ _ 0 (by omega) ⟨by simp, by simp⟩
  · rintro s ⟨h1, h2⟩
    refine ev_unfold (fun k => rfl) ?_
    simp only [laws_toIntS.l0]
    refine ev_neg (by omega) (ev_ret ?_)
    rw [List.take_of_length_le (by omega), List.take_of_length_le (by omega)] at h2
    exact h2
  · rintro s i hi ⟨h1, h2⟩ ih
    refine ev_unfold (fun k => rfl) ?_
    simp only [laws_toIntS.l0]
    refine ev_pos (by omega) (ev_pos (by omega) (ev_pos (by omega) ?_))
    rw [w64next i (by omega), rd_at l i hi, Int.toNat_natCast]
    refine ih _ ⟨by simpa using h1, ?_⟩
    apply List.ext_getElem
    · simp; omega
    · intro j hj1 hj2
      simp at hj1 hj2
      simp only [List.getElem_take, List.getElem_set]
      by_cases hij : i = j
      · subst hij; simp
      · rw [if_neg hij]
        have h3 : (s.take i)[j]'(by simp; omega) = (l.take i)[j]'(by simp; omega) := by simp only [h2]
        simpa using h3

theorem impl_HighBid_ev (l : List Int) (hl : l.length ≤ 1048576) : Ev (fun k => impl_HighBid.f k l) (l.foldl max 0) := by
  simp only [impl_HighBid.f]
  refine ev_loop (fun k (s : Int) i => impl_HighBid.l0 k s l (l.length : Int) i) l (fun s r => r.foldl max s) (fun _ _ => True) ?_ ?_ 0 0 (by omega) trivial
  · rintro s _
    refine ev_unfold (fun k => rfl) ?_
    simp only [impl_HighBid.l0]
    exact ev_neg (by omega) (ev_ret rfl)
  · rintro s i hi _ ih
    refine ev_unfold (fun k => rfl) ?_
    simp only [impl_HighBid.l0]
    refine ev_pos (by omega) (ev_pos (by omega) (ev_pos (by omega) ?_))
    rw [w64next i (by omega), rd_at l i hi, mx_max]
    exact ih _ trivial

theorem laws_eqIntS_ev (a b : List Int) (ha : a.length ≤ 1048576000) : Ev (fun k => laws_eqIntS.f k a b) (decide (a = b)) := by
  simp only [laws_eqIntS.f]
  refine ev_ite (fun hlen => ?_) (fun hne => ev_ret ?_)
  · have hlen' : a.length = b.length := by omega
    have h := ev_loop (fun k (_ : Unit) i => laws_eqIntS.l0 k a b i) a (fun _ r => decide (r = b.drop (a.length - r.length))) (fun _ _ => True) ?_ ?_ () 0 (by omega) trivial
    · refine ev_done h ?_
      simp
    · rintro _ _
      refine ev_unfold (fun k => rfl) ?_
      simp only [laws_eqIntS.l0]
      refine ev_neg (by omega) (ev_ret ?_)
      rw [List.length_nil, Nat.sub_zero, hlen', drop_end]
      simp
    · rintro _ i hi _ ih
      refine ev_unfold (fun k => rfl) ?_
      simp only [laws_eqIntS.l0]
      refine ev_pos (by omega) (ev_pos (by omega) (ev_pos (by omega) ?_))
      rw [w64next i (by omega), rd_at a i hi, rd_at b i (by omega)]
      have e1 : a.length - (a[i] :: a.drop (i + 1)).length = i := by simp; omega
      have e2 : a.length - (a.drop (i + 1)).length = i + 1 := by simp; omega
      refine ev_ite (fun heq => ?_) (fun hne => ev_ret ?_)
      · refine ev_done (ih () trivial) ?_
        rw [e1, e2, drop_at b i (by omega), heq]
        exact decide_eq_decide.2 ⟨fun h => by rw [h], fun h => (List.cons.inj h).2⟩
      · rw [e1, drop_at b i (by omega)]
        exact (decide_eq_false (fun h => hne (List.cons.inj h).1)).symm
  · have : a ≠ b := by rintro rfl; exact hne rfl
    simp [this]

theorem FnExactHighBid : laws_FnExactHighBid.Pure := by
  intro l _ _ _
  refine Ev.rounds ?_
  simp only [laws_FnExactHighBid.f]
  refine ev_ite (fun _ => Ev.now _) (fun h => ?_)
  have hl : l.length ≤ 1048576 := by omega
  refine Ev.bind (laws_toIntS_ev l hl) (Ev.bind (spec_HighBid_ev l hl) (Ev.bind (laws_toIntS_ev l hl) (Ev.bind (impl_HighBid_ev l hl) (ev_pos rfl ?_))))
  refine Ev.bind (laws_toIntS_ev l hl) (Ev.bind (laws_eqIntS_ev l l (by omega)) (ev_pos (by simp) (Ev.now _)))

end Go.Proofs.Ytcekakabpfmhdaa.Pure
