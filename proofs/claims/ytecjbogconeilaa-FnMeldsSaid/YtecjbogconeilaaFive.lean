/- The best five cards of a hand as plain functions: the subsets in the order of their masks, the better one kept. No condition. -/
import Derived.Test.YtecjbogconeilaaKinds
import Derived.Test.YtecjbogconeilaaSort
namespace Go.Proofs.Ytecjbogconeilaa.Lib
open Go.RowKit Go.Proofs.YtecjbogconeilaaW.PrintWords Go.Proofs.YtecjbogconeilaaW.PrintLast Go.Proofs.YtecjbogconeilaaW.PrintMore
set_option linter.unusedVariables false
set_option linter.unusedSimpArgs false

/-- Rows by their first difference, the shorter one before the longer. -/
def before : List Int → List Int → Bool
  | x :: a, y :: b => if x = y then before a b else decide (x < y)
  | a, b => decide (a.length < b.length)
theorem before_end {a b : List Int} (h : a = [] ∨ b = []) : before a b = decide (a.length < b.length) := by
  cases a with
  | nil => rfl
  | cons x a =>
    cases b with
    | nil => rfl
    | cons y b => simp at h
def bitOf (m : Int) (i : Nat) : Bool := decide ((Go.bits .and .i64 (shr .i64 m (i : Int)) 1) = 1)
def pickF (m : Int) : Nat → List Int → List Int
  | _, [] => []
  | i, c :: r => if bitOf m i = true then c :: pickF m (i + 1) r else pickF m (i + 1) r
theorem pickF_length (m : Int) : ∀ (l : List Int) (i : Nat), (pickF m i l).length ≤ l.length := by
  intro l
  induction l with
  | nil => intro i; exact Nat.le_refl _
  | cons c r ih =>
    intro i
    unfold pickF
    have := ih (i + 1)
    split <;> simp only [List.length_cons] <;> omega
def keep5 (best x : List Int) : List Int := if x.length = 5 then (if best.length = 0 then x else if compareFive x best > 0 then x else if compareFive x best = 0 then (if before x best = true then x else best) else best) else best
theorem keep5_length {best x : List Int} {b : Nat} (h1 : best.length ≤ b) (h2 : x.length ≤ b) : (keep5 best x).length ≤ b := by
  unfold keep5
  repeat' split
  all_goals assumption
def bestFrom (l : List Int) : Nat → Nat → List Int → List Int
  | 0, _, best => best
  | d + 1, m, best => bestFrom l d (m + 1) (keep5 best (pickF (m : Int) 0 l))
theorem bestFrom_length (l : List Int) : ∀ (d m : Nat) (best : List Int), best.length ≤ l.length → (bestFrom l d m best).length ≤ l.length := by
  intro d
  induction d with
  | zero => intro m best h; exact h
  | succ d ih => intro m best h; exact ih _ _ (keep5_length h (pickF_length _ _ _))
def masks (l : List Int) : Nat := (shl .i64 1 (l.length : Int)).toNat
theorem masks_ok (l : List Int) (h1 : 5 ≤ l.length) (h2 : l.length ≤ 7) : shl .i64 1 (l.length : Int) = (masks l : Int) ∧ masks l ≤ 128 := by
  unfold masks
  have : l.length = 5 ∨ l.length = 6 ∨ l.length = 7 := by omega
  rcases this with h | h | h <;> rw [h] <;> decide
def bestFive (l : List Int) : List Int := if isHand l = true ∧ inR (l.length : Int) 5 7 = true then bestFrom (sorted l) (masks (sorted l)) 0 [] else []
theorem bestFive_length (l : List Int) : (bestFive l).length ≤ l.length := by
  unfold bestFive
  split
  · have := bestFrom_length (sorted l) (masks (sorted l)) 0 [] (Nat.zero_le _)
    rw [sorted_length] at this
    exact this
  · exact Nat.zero_le _
end Go.Proofs.Ytecjbogconeilaa.Lib
