/- Plain functions on slices of slices, score sheets and deals. No condition. -/
import Derived.Test.YtecjbogconeilaaCards
namespace Go.Proofs.Ytecjbogconeilaa.Lib
open Go.RowKit Go.Proofs.YtecjbogconeilaaW.PrintWords Go.Proofs.YtecjbogconeilaaW.PrintLast Go.Proofs.YtecjbogconeilaaW.PrintMore
set_option linter.unusedVariables false
set_option linter.unusedSimpArgs false

/-- How many numbers lie in the rows. -/
def totalLen (l : List (List Int)) : Nat := (l.map List.length).sum
theorem totalLen_cons (r : List Int) (l : List (List Int)) : totalLen (r :: l) = r.length + totalLen l := by simp [totalLen]
theorem len_le_total {r : List Int} {l : List (List Int)} (h : r ∈ l) : r.length ≤ totalLen l := by
  induction l with
  | nil => cases h
  | cons x t ih =>
    rw [totalLen_cons]
    rcases List.mem_cons.1 h with rfl | h
    · omega
    · have := ih h; omega
/-- What is left of a bound. -/
def bLeft (a : Int) (n : Nat) : Int := if a - (n : Int) < 0 then -1 else a - (n : Int)
theorem bLeft_some {a : Int} {n : Nat} (h : ¬ bLeft a n < 0) : (n : Int) ≤ a ∧ bLeft a n = a - n := by
  unfold bLeft at h ⊢
  split <;> rename_i hc
  · rw [if_pos hc] at h; omega
  · exact ⟨by omega, rfl⟩
theorem bLeft_then {a : Int} {n m : Nat} (h : ¬ bLeft a n < 0) : bLeft (bLeft a n) m = bLeft a (n + m) := by
  have h2 := bLeft_some h
  rw [h2.2]
  unfold bLeft
  by_cases hc : a - (n : Int) - (m : Int) < 0
  · rw [if_pos hc, if_pos (by omega)]
  · rw [if_neg hc, if_neg (by omega)]; omega
theorem bLeft_no {a : Int} {n m : Nat} (h : bLeft a n < 0) : bLeft a (n + m) = -1 := by
  unfold bLeft at h ⊢
  by_cases hc : a - (n : Int) < 0
  · rw [if_pos (by omega)]
  · rw [if_neg hc] at h; omega
def isSheet (p : Int) (l : List (List Int)) : Bool := l.all (isRound p) && (inR p 2 6 && decide (l.length ≤ 50))
def totalF (who : Int) (s : Int) (l : List (List Int)) : Int := l.foldl (fun a r => wrap64 (a + rd r who)) s
def totalOf (p : Int) (l : List (List Int)) (who : Int) : Int := if isSheet p l = true ∧ inR who 0 (p - 1) = true then totalF who 0 l else 0
theorem isSheet_row {p : Int} {l : List (List Int)} (h : isSheet p l = true) {r : List Int} (hr : r ∈ l) : (r.length : Int) = p := by
  simp only [isSheet, Bool.and_eq_true, List.all_eq_true] at h
  have := h.1 r hr
  simp only [isRound, Bool.and_eq_true, decide_eq_true_eq] at this
  exact this.2.2.1
theorem isSheet_p {p : Int} {l : List (List Int)} (h : isSheet p l = true) : 2 ≤ p ∧ p ≤ 6 := by
  simp only [isSheet, Bool.and_eq_true, inR_iff] at h
  exact h.2.1
def aheadF (t : Int → Int) : Nat → Int → Int → Int
  | 0, b, _ => b
  | n + 1, b, i => aheadF t n (if t i > t b then i else b) (i + 1)
def aheadIn (p : Int) (l : List (List Int)) : Int := if isSheet p l = true then aheadF (totalOf p l) (p - 1).toNat 0 1 else -1
/-- How many cards lie in the hands, as int adds. -/
def cardsW (s : Int) (l : List (List Int)) : Int := l.foldl (fun a r => wrap64 (a + (r.length : Int))) s
def turnOf (hands : List (List Int)) (leader : Int) (trick : List Int) : Int :=
  if (hands.length : Int) = 0 then -1 else if cardsW 0 hands = 0 then -1 else if inR leader 0 ((hands.length : Int) - 1) = true then (leader + (trick.length : Int)).tmod (hands.length : Int) else -1

end Go.Proofs.Ytecjbogconeilaa.Lib
