/- In the given program FnExactTopOf answers true for every input, by what its functions compute; no condition. -/
import Derived.Test.YtcekakabpfmhdaaPFnExactTopOfx2
import Derived.Test.YtcekakabpfmhdaaLib
import Derived.Test.YtcekakabpfmhdaaCards
import Derived.Test.YtcekakabpfmhdaaSheets
namespace Go.Proofs.Ytcekakabpfmhdaa.Pure
open Go.RowKit Go.Proofs.Ytcekakabpfmhdaa.PFnExactTopOf Go.Proofs.YtcekakabpfmhdaaW.PrintWords Go.Proofs.YtcekakabpfmhdaaW.PrintLast Go.Proofs.YtcekakabpfmhdaaW.PrintMore Go.Proofs.Ytcekakabpfmhdaa.Lib
set_option linter.unusedVariables false
set_option linter.unusedSimpArgs false

theorem laws_szIntS_eq (l : List Int) (a : Int) (ha : -1 ≤ a ∧ a ≤ 1048576) (hl : l.length ≤ maxLen) : laws_szIntS.f l a = some (bLeft a l.length) := by
  simp only [maxLen] at hl
  unfold laws_szIntS.f bLeft
  rw [w64 _ (by omega)]
  split <;> rfl

theorem laws_szPile_eq (l : List Int) (h : Int) (a : Int) (ha : -1 ≤ a ∧ a ≤ 1048576) (hl : l.length ≤ maxLen) : laws_szPile.f l h a = some (bLeft a l.length) := by
  unfold laws_szPile.f
  rw [laws_szIntS_eq l a ha hl]
  simp only [Option.bind_some]
  split
  · rename_i hc
    have := bLeft_no (m := 0) hc
    rw [Nat.add_zero] at this; rw [this]
  · rfl

theorem spec_TopOf_eq (l : List Int) (h : Int) (hl : l.length ≤ 1048576000) : spec_TopOf.f l h = some (if (l.length : Int) = 0 then -1 else rd l ((l.length : Int) - 1)) := by
  unfold spec_TopOf.f
  rw [w64 ((l.length : Int) - 1) (by omega)]
  by_cases h0 : (l.length : Int) = 0
  · rw [if_pos h0, if_pos h0]
  · rw [if_neg h0, if_neg h0, if_pos (by omega), if_pos (by omega)]

theorem laws_toIntS_ev (l : List Int) (hl : l.length ≤ 1048576000) : Ev (fun k => laws_toIntS.f k l) l := by
  simp only [laws_toIntS.f]
  refine ev_pos (by omega) (ev_pos (by omega) ?_)
  refine ev_loop (fun k (s : List Int) i => laws_toIntS.l0 k l s i) l (fun _ _ => l) (fun s i => s.length = l.length ∧ s.take i = l.take i) ?_ ?_ _ 0 (by omega) ⟨by simp, by simp⟩
  · rintro s ⟨h1, h2⟩
    refine ev_unfold (fun k => rfl) ?_
    simp only [laws_toIntS.l0]
    refine ev_neg (by omega) (ev_ret ?_)
    rw [List.take_of_length_le (by omega), List.take_of_length_le (by omega)] at h2
    exact h2
  · rintro s i hi ⟨h1, h2⟩ ih
    refine ev_unfold (fun k => rfl) ?_
    simp only [laws_toIntS.l0]
    refine ev_pos (by omega) (ev_pos (by omega) (ev_pos (by omega) ?_))
    rw [w64next i (by omega), rd_at l i hi, Int.toNat_natCast]
    refine ih _ ⟨by simpa using h1, ?_⟩
    apply List.ext_getElem
    · simp; omega
    · intro j hj1 hj2
      simp at hj1 hj2
      simp only [List.getElem_take, List.getElem_set]
      by_cases hij : i = j
      · subst hij; simp
      · rw [if_neg hij]
        have h3 : (s.take i)[j]'(by simp; omega) = (l.take i)[j]'(by simp; omega) := by simp only [h2]
        simpa using h3

theorem laws_toPile_ev (l : List Int) (h : Int) (hl : l.length ≤ 1048576000) : Ev (fun k => laws_toPile.f k l h) (l, h) := by
  simp only [laws_toPile.f]
  exact Ev.bind (laws_toIntS_ev l hl) (Ev.now _)

theorem impl_TopOf_eq (l : List Int) (h : Int) (hl : l.length ≤ 1048576000) : impl_TopOf.f l h = some (if (l.length : Int) = 0 then -1 else rd l ((l.length : Int) - 1)) := by
  unfold impl_TopOf.f
  rw [w64 ((l.length : Int) - 1) (by omega)]
  by_cases h0 : (l.length : Int) = 0
  · rw [if_pos h0, if_pos h0]
  · rw [if_neg h0, if_neg h0, if_pos (by omega), if_pos (by omega)]

theorem laws_eqIntS_ev (a b : List Int) (ha : a.length ≤ 1048576000) : Ev (fun k => laws_eqIntS.f k a b) (decide (a = b)) := by
  simp only [laws_eqIntS.f]
  refine ev_ite (fun hlen => ?_) (fun hne => ev_ret ?_)
  · have hlen' : a.length = b.length := by omega
    have h := ev_loop (fun k (_ : Unit) i => laws_eqIntS.l0 k a b i) a (fun _ r => decide (r = b.drop (a.length - r.length))) (fun _ _ => True) ?_ ?_ () 0 (by omega) trivial
    · refine ev_done h ?_
      simp
    · rintro _ _
      refine ev_unfold (fun k => rfl) ?_
      simp only [laws_eqIntS.l0]
      refine ev_neg (by omega) (ev_ret ?_)
      rw [List.length_nil, Nat.sub_zero, hlen', drop_end]
      simp
    · rintro _ i hi _ ih
      refine ev_unfold (fun k => rfl) ?_
      simp only [laws_eqIntS.l0]
      refine ev_pos (by omega) (ev_pos (by omega) (ev_pos (by omega) ?_))
      rw [w64next i (by omega), rd_at a i hi, rd_at b i (by omega)]
      have e1 : a.length - (a[i] :: a.drop (i + 1)).length = i := by simp; omega
      have e2 : a.length - (a.drop (i + 1)).length = i + 1 := by simp; omega
      refine ev_ite (fun heq => ?_) (fun hne => ev_ret ?_)
      · refine ev_done (ih () trivial) ?_
        rw [e1, e2, drop_at b i (by omega), heq]
        exact decide_eq_decide.2 ⟨fun h => by rw [h], fun h => (List.cons.inj h).2⟩
      · rw [e1, drop_at b i (by omega)]
        exact (decide_eq_false (fun h => hne (List.cons.inj h).1)).symm
  · have : a ≠ b := by rintro rfl; exact hne rfl
    simp [this]

theorem laws_eqPile_ev (l : List Int) (h : Int) (hl : l.length ≤ 1048576000) : Ev (fun k => laws_eqPile.f k l h l h) true := by
  simp only [laws_eqPile.f]
  exact Ev.bind (laws_eqIntS_ev l l hl) (ev_pos (by simp) (ev_pos trivial (Ev.now _)))

theorem FnExactTopOf : ∀ (l : List Int) (a : Int), l.length ≤ maxLen → (∀ x ∈ l, (Lit.int .i64 x).wf = true) → (Lit.int .i64 a).wf = true → ∃ k, laws_FnExactTopOf.f k l a = some true := by
  intro l a hl0 _ _
  refine Ev.rounds ?_
  simp only [laws_FnExactTopOf.f]
  refine ev_eq (laws_szPile_eq l a _ (by omega) hl0) (ev_ite (fun _ => Ev.now _) (fun h => ?_))
  have h2 := (bLeft_some h).1
  have hl : l.length ≤ 1048576000 := by omega
  refine Ev.bind (laws_toPile_ev l a hl) (ev_eq (spec_TopOf_eq l a hl) (Ev.bind (laws_toPile_ev l a hl) (ev_eq (impl_TopOf_eq l a hl) (ev_pos rfl ?_))))
  exact Ev.bind (laws_toPile_ev l a hl) (Ev.bind (laws_eqPile_ev l a hl) (ev_pos rfl (Ev.now _)))

end Go.Proofs.Ytcekakabpfmhdaa.Pure
