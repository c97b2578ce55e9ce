/- In the given program FnExactCallsEnd answers true for every input, by what its functions compute; no condition. -/
import Derived.Test.YtcekakabpfmhdaaPFnExactCallsEndx1
import Derived.Test.YtcekakabpfmhdaaLib
import Derived.Test.YtcekakabpfmhdaaCards
namespace Go.Proofs.Ytcekakabpfmhdaa.Pure
open Go.RowKit Go.Proofs.Ytcekakabpfmhdaa.PFnExactCallsEnd Go.Proofs.YtcekakabpfmhdaaW.PrintWords Go.Proofs.YtcekakabpfmhdaaW.PrintLast Go.Proofs.YtcekakabpfmhdaaW.PrintMore Go.Proofs.Ytcekakabpfmhdaa.Lib
set_option linter.unusedVariables false
set_option linter.unusedSimpArgs false

theorem laws_toIntS_ev (l : List Int) (hl : l.length ≤ 1048576) : Ev (fun k => laws_toIntS.f k l) l := by
  simp only [laws_toIntS.f]
  refine ev_pos (by omega) (ev_pos (by omega) ?_)
  refine ev_loop (fun k (s : List Int) i => laws_toIntS.l0 k l s i) l (fun _ _ => l) (fun s i => s.length = l.length ∧ s.take i = l.take i) ?_ ?_ _ 0 (by omega) ⟨by simp, by simp⟩
  · rintro s ⟨h1, h2⟩
    refine ev_unfold (fun k => rfl) ?_
    simp only [laws_toIntS.l0]
    refine ev_neg (by omega) (ev_ret ?_)
    rw [List.take_of_length_le (by omega), List.take_of_length_le (by omega)] at h2
    exact h2
  · rintro s i hi ⟨h1, h2⟩ ih
    refine ev_unfold (fun k => rfl) ?_
    simp only [laws_toIntS.l0]
    refine ev_pos (by omega) (ev_pos (by omega) (ev_pos (by omega) ?_))
    rw [w64next i (by omega), rd_at l i hi, Int.toNat_natCast]
    refine ih _ ⟨by simpa using h1, ?_⟩
    apply List.ext_getElem
    · simp; omega
    · intro j hj1 hj2
      simp at hj1 hj2
      simp only [List.getElem_take, List.getElem_set]
      by_cases hij : i = j
      · subst hij; simp
      · rw [if_neg hij]
        have h3 : (s.take i)[j]'(by simp; omega) = (l.take i)[j]'(by simp; omega) := by simp only [h2]
        simpa using h3

theorem laws_eqIntS_ev (a b : List Int) (ha : a.length ≤ 1048576000) : Ev (fun k => laws_eqIntS.f k a b) (decide (a = b)) := by
  simp only [laws_eqIntS.f]
  refine ev_ite (fun hlen => ?_) (fun hne => ev_ret ?_)
  · have hlen' : a.length = b.length := by omega
    have h := ev_loop (fun k (_ : Unit) i => laws_eqIntS.l0 k a b i) a (fun _ r => decide (r = b.drop (a.length - r.length))) (fun _ _ => True) ?_ ?_ () 0 (by omega) trivial
    · refine ev_done h ?_
      simp
    · rintro _ _
      refine ev_unfold (fun k => rfl) ?_
      simp only [laws_eqIntS.l0]
      refine ev_neg (by omega) (ev_ret ?_)
      rw [List.length_nil, Nat.sub_zero, hlen', drop_end]
      simp
    · rintro _ i hi _ ih
      refine ev_unfold (fun k => rfl) ?_
      simp only [laws_eqIntS.l0]
      refine ev_pos (by omega) (ev_pos (by omega) (ev_pos (by omega) ?_))
      rw [w64next i (by omega), rd_at a i hi, rd_at b i (by omega)]
      have e1 : a.length - (a[i] :: a.drop (i + 1)).length = i := by simp; omega
      have e2 : a.length - (a.drop (i + 1)).length = i + 1 := by simp; omega
      refine ev_ite (fun heq => ?_) (fun hne => ev_ret ?_)
      · refine ev_done (ih () trivial) ?_
        rw [e1, e2, drop_at b i (by omega), heq]
        exact decide_eq_decide.2 ⟨fun h => by rw [h], fun h => (List.cons.inj h).2⟩
      · rw [e1, drop_at b i (by omega)]
        exact (decide_eq_false (fun h => hne (List.cons.inj h).1)).symm
  · have : a ≠ b := by rintro rfl; exact hne rfl
    simp [this]

theorem spec_CallsEnd_ev (p : Int) (l : List Int) (hl : l.length ≤ 1048576) (hp : -9223372036854775808 ≤ p ∧ p ≤ 9223372036854775807) : Ev (fun k => spec_CallsEnd.f k p l) (callsEnd p l) := by
  have fin : ∀ n : Nat, n ≤ l.length → ∀ (r : Option Bool), r = (if (n : Int) = (l.length : Int) then (if p ≥ 1 then (some (decide ((n : Int) ≥ p))) else (some false)) else (if (n : Int) ≥ (wrap64 (p - 1)) then (some (decide (p ≥ 1))) else (some false))) → r = some (callsFin p l n) := by
    intro n hn r hr
    rw [hr]
    unfold callsFin
    by_cases h1 : 1 ≤ p
    · rw [w64 (p - 1) (by omega)]
      by_cases h2 : n = l.length
      · rw [if_pos (by omega), if_pos h1, if_pos h2]; simp [h1]
      · rw [if_neg (by omega), if_neg h2]
        by_cases h3 : (n : Int) ≥ p - 1
        · rw [if_pos h3]; simp [h1, h3]
        · rw [if_neg h3]; simp [h1, h3]
    · by_cases h2 : n = l.length
      · rw [if_pos (by omega), if_neg h1]; simp [h1]
      · rw [if_neg (by omega)]
        split <;> simp [h1]
  have hrl : l.reverse.length = l.length := by simp
  have h := ev_loop (fun k (_ : Unit) i => spec_CallsEnd.l0 k p l i) l.reverse (fun _ r => callsFin p l (l.length - r.length + passF r)) (fun _ _ => True) ?_ ?_ () 0 (by omega) trivial
  · simp only [spec_CallsEnd.f]
    refine ev_done h ?_
    simp [callsEnd]
  · rintro _ _
    refine ev_unfold (fun k => rfl) ?_
    simp only [spec_CallsEnd.l0, hrl]
    refine ev_neg (by omega) ?_
    refine Ev.congr (fun n => ?_) (Ev.now _)
    exact fin _ (by simp [passF]) _ (by simp [passF])
  · rintro _ i hi _ ih
    refine ev_unfold (fun k => rfl) ?_
    simp only [spec_CallsEnd.l0]
    rw [w64 ((l.length : Int) - 1) (by omega), w64 ((l.length : Int) - 1 - (i : Int)) (by omega), rd_rev l i hi, w64next i (by omega)]
    refine ev_pos (by omega) (ev_pos (by omega) (ev_pos (by omega) ?_))
    refine ev_ite (fun h => ?_) (fun h => ?_)
    · refine ev_done (ih () trivial) ?_
      congr 1
      unfold passF
      rw [if_pos h]
      simp only [List.length_drop, List.length_cons, hrl]
      cases hh : l.reverse.drop (i + 1) <;> simp [passF] <;> omega
    · refine Ev.congr (fun n => fin i (by omega) _ rfl) (ev_ret ?_)
      congr 1
      unfold passF
      rw [if_neg h]
      simp only [List.length_drop, List.length_cons, hrl]
      omega

theorem impl_CallsEnd_ev (p : Int) (l : List Int) (hl : l.length ≤ 1048576) (hp : -9223372036854775808 ≤ p ∧ p ≤ 9223372036854775807) : Ev (fun k => impl_CallsEnd.f k p l) (callsEnd p l) := by
  have fin : ∀ n : Nat, n ≤ l.length → Ev (fun k => impl_CallsEnd.j1 k p l (n : Int)) (callsFin p l n) := by
    intro n hn
    refine ev_unfold (fun k => rfl) ?_
    simp only [impl_CallsEnd.j1]
    unfold callsFin
    refine ev_ite (fun h => ev_ret ?_) (fun h => ?_)
    · simp; omega
    · rw [w64 (p - 1) (by omega)]
      refine ev_ite (fun h2 => ev_ret ?_) (fun h2 => ev_ret ?_)
      · rw [if_pos (by omega)]; simp; omega
      · rw [if_neg (by omega)]; simp; omega
  have hrl : l.reverse.length = l.length := by simp
  have h := ev_loop (fun k (_ : Unit) i => impl_CallsEnd.l0 k p l i ((l.length : Int) - 1 - i)) l.reverse (fun _ r => callsFin p l (l.length - r.length + passF r)) (fun _ _ => True) ?_ ?_ () 0 (by omega) trivial
  · simp only [impl_CallsEnd.f]
    rw [w64 ((l.length : Int) - 1) (by omega)]
    refine ev_done (Ev.congr (fun k => ?_) h) ?_
    · simp
    · simp [callsEnd]
  · rintro _ _
    refine ev_unfold (fun k => rfl) ?_
    simp only [impl_CallsEnd.l0, hrl]
    refine ev_neg (by omega) ?_
    refine ev_done (fin _ (by omega)) ?_
    simp [passF]
  · rintro _ i hi _ ih
    refine ev_unfold (fun k => rfl) ?_
    simp only [impl_CallsEnd.l0]
    rw [rd_rev l i hi, w64next i (by omega), w64 ((l.length : Int) - 1 - (i : Int) - 1) (by omega)]
    refine ev_pos (by omega) (ev_pos (by omega) (ev_pos (by omega) ?_))
    refine ev_ite (fun h => ?_) (fun h => ?_)
    · refine ev_done (Ev.congr (fun k => ?_) (ih () trivial)) ?_
      · congr 1; omega
      · congr 1
        unfold passF
        rw [if_pos h]
        simp only [List.length_drop, List.length_cons, hrl]
        cases hh : l.reverse.drop (i + 1) <;> simp [passF] <;> omega
    · refine ev_done (fin i (by omega)) ?_
      congr 1
      unfold passF
      rw [if_neg h]
      simp only [List.length_drop, List.length_cons, hrl]
      omega

theorem FnExactCallsEnd : laws_FnExactCallsEnd.Pure := by
  intro p l hp _ _ _
  refine Ev.rounds ?_
  simp only [laws_FnExactCallsEnd.f]
  refine ev_ite (fun _ => Ev.now _) (fun h => ?_)
  have hl : l.length ≤ 1048576 := by omega
  refine Ev.bind (laws_toIntS_ev l hl) (Ev.bind (spec_CallsEnd_ev p l hl (wf64 hp)) (Ev.bind (laws_toIntS_ev l hl) (Ev.bind (impl_CallsEnd_ev p l hl (wf64 hp)) (ev_neg (by simp) ?_))))
  exact Ev.bind (laws_toIntS_ev l hl) (Ev.bind (laws_eqIntS_ev l l (by omega)) (ev_pos (by simp) (Ev.now _)))

end Go.Proofs.Ytcekakabpfmhdaa.Pure
