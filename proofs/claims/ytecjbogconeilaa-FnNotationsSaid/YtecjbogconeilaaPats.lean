/- What a pattern says of a card: the pile of Booleans as a plain function. No condition. -/
import Derived.Test.YtecjbogconeilaaHands
namespace Go.Proofs.Ytecjbogconeilaa.Lib
open Go.RowKit Go.Proofs.YtecjbogconeilaaW.PrintWords Go.Proofs.YtecjbogconeilaaW.PrintLast Go.Proofs.YtecjbogconeilaaW.PrintMore
set_option linter.unusedVariables false
set_option linter.unusedSimpArgs false

def isRed (c : Int) : Bool := inR (suitOf c) 1 2
def asksOf (s c : Int) : Bool := if s = 400 then isRed c else if s ≥ 300 then decide (rankOf c ≥ s - 300) else if s ≥ 200 then decide (rankOf c = s - 200) else decide (suitOf c = s - 100)
def stepP (c : Int) (pile : List Bool) (s : Int) : List Bool :=
  if s = -1 then pile.set (pile.length - 1) (!pile.getD (pile.length - 1) false)
  else if s = -2 then pile.take (pile.length - 2) ++ [pile.getD (pile.length - 2) false && pile.getD (pile.length - 1) false]
  else if s = -3 then pile.take (pile.length - 2) ++ [pile.getD (pile.length - 2) false || pile.getD (pile.length - 1) false]
  else pile ++ [asksOf s c]
def pileF (c : Int) : List Bool → List Int → List Bool
  | pile, [] => pile
  | pile, s :: r => pileF c (stepP c pile s) r
/-- How many the pile holds, told by the pattern's own reckoning. -/
theorem step_length {c : Int} {pile : List Bool} {s : Int} {r : List Int} {m : Int} (h : patF (pile.length : Int) (s :: r) = some m) :
    patF ((stepP c pile s).length : Int) r = some m ∧ (s = -1 → 1 ≤ pile.length) ∧ (s = -2 → 2 ≤ pile.length) ∧ (s = -3 → 2 ≤ pile.length) ∧ (stepP c pile s).length ≤ pile.length + 1 ∧ (s ≠ -1 → s ≠ -2 → s ≠ -3 → isLeaf s = true) := by
  unfold patF at h
  unfold stepP
  by_cases h0 : isLeaf s = true
  · rw [if_pos h0] at h
    have hs : 100 ≤ s := by
      simp only [isLeaf, Bool.or_eq_true, inR_iff, beq_iff_eq] at h0; omega
    rw [if_neg (by omega), if_neg (by omega), if_neg (by omega)]
    refine ⟨?_, by omega, by omega, by omega, by simp, fun _ _ _ => h0⟩
    rw [List.length_append]; simpa using h
  · rw [if_neg h0] at h
    by_cases h1 : s = -1
    · rw [if_pos h1] at h ⊢
      split at h
      · refine ⟨by rw [List.length_set]; exact h, by omega, by omega, by omega, by simp, fun e => absurd h1 e⟩
      · cases h
    · rw [if_neg h1] at h ⊢
      by_cases h2 : s = -2 ∨ s = -3
      · rw [if_pos h2] at h
        split at h
        · rename_i hp
          have e : ∀ b : Bool, (((pile.take (pile.length - 2) ++ [b]).length : Nat) : Int) = (pile.length : Int) - 1 := by intro b; simp <;> omega
          have e2 : ∀ b : Bool, (pile.take (pile.length - 2) ++ [b]).length ≤ pile.length + 1 := by intro b; simp <;> omega
          rcases h2 with h2 | h2
          · rw [if_pos h2, e]; exact ⟨h, by omega, by omega, by omega, e2 _, fun _ e => absurd h2 e⟩
          · rw [if_neg (by omega), if_pos h2, e]; exact ⟨h, by omega, by omega, by omega, e2 _, fun _ _ e => absurd h2 e⟩
        · cases h
      · rw [if_neg h2] at h; cases h
def matchOf (p : List Int) (c : Int) : Bool := if (isPattern p && isCard c) = true then (pileF c [] p).getD 0 false else false
def countM (p l : List Int) : Int := ((l.filter fun c => matchOf p c).length : Int)
def setM (p : List Int) : Nat → Nat → List Int
  | _, 0 => []
  | i, m + 1 => if matchOf p (i : Int) = true then (i : Int) :: setM p (i + 1) m else setM p (i + 1) m
def matchSet (p : List Int) : List Int := setM p 0 52
theorem setM_length (p : List Int) : ∀ (m i : Nat), (setM p i m).length ≤ m
  | 0, i => by simp [setM]
  | m + 1, i => by
    have := setM_length p m (i + 1)
    unfold setM
    split
    · simp; omega
    · omega
def alike (a b : List Int) : Bool := if isPattern a = true then (if isPattern b = true then decide (matchSet a = matchSet b) else false) else false
end Go.Proofs.Ytecjbogconeilaa.Lib
