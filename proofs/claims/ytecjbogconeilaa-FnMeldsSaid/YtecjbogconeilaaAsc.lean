/- Lists that ascend, as the laws' own test tells it. No condition. -/
import Derived.Test.YtecjbogconeilaaLib
namespace Go.Proofs.Ytecjbogconeilaa.Lib
open Go.RowKit Go.Proofs.YtecjbogconeilaaW.PrintWords Go.Proofs.YtecjbogconeilaaW.PrintLast Go.Proofs.YtecjbogconeilaaW.PrintMore
set_option linter.unusedVariables false
set_option linter.unusedSimpArgs false

def ascFrom (l : List Int) (i : Nat) : Bool := decide (∀ j, j < l.length → i ≤ j → 1 ≤ j → rd l ((j - 1 : Nat) : Int) < rd l (j : Int))
def ascB (l : List Int) : Bool := ascFrom l 1
theorem ascFrom_end {l : List Int} {i : Nat} (h : l.length ≤ i) : ascFrom l i = true := decide_eq_true (fun j h1 h2 => by omega)
theorem ascFrom_step {l : List Int} {i : Nat} (h : i < l.length) (h1 : 1 ≤ i) : ascFrom l i = (decide (l[i - 1] < l[i]) && ascFrom l (i + 1)) := by
  unfold ascFrom
  rw [Bool.eq_iff_iff, Bool.and_eq_true, decide_eq_true_iff, decide_eq_true_iff, decide_eq_true_iff]
  constructor
  · intro hp
    refine ⟨?_, fun j h2 h3 h4 => hp j h2 (by omega) h4⟩
    have := hp i h (Nat.le_refl _) h1
    rw [rd_at l i h, rd_at l (i - 1) (by omega)] at this
    exact this
  · rintro ⟨h0, hp⟩ j h2 h3 h4
    rcases Nat.lt_or_ge i j with h5 | h5
    · exact hp j h2 h5 h4
    · obtain rfl : i = j := by omega
      rw [rd_at l i h, rd_at l (i - 1) (by omega)]
      exact h0
theorem ascB_iff {l : List Int} : ascB l = true ↔ l.Pairwise (· < ·) := by
  unfold ascB ascFrom
  rw [decide_eq_true_iff, List.pairwise_iff_getElem]
  constructor
  · intro h
    have key : ∀ (d i : Nat) (hi : i < l.length) (hj : i + d + 1 < l.length), l[i] < l[i + d + 1] := by
      intro d
      induction d with
      | zero =>
        intro i hi hj
        have := h (i + 1) hj (by omega) (by omega)
        rw [rd_at l (i + 1) hj, Nat.add_sub_cancel, rd_at l i hi] at this
        exact this
      | succ d ih =>
        intro i hi hj
        have h1 := ih i hi (by omega)
        have := h (i + (d + 1) + 1) hj (by omega) (by omega)
        rw [rd_at l (i + (d + 1) + 1) hj, Nat.add_sub_cancel, rd_at l (i + (d + 1)) (by omega)] at this
        exact Int.lt_trans h1 this
    intro i j hi hj hij
    have := key (j - i - 1) i hi (by omega)
    simpa only [show i + (j - i - 1) + 1 = j by omega] using this
  · intro h j h1 _ h2
    rw [rd_at l j h1, rd_at l (j - 1) (by omega)]
    exact h (j - 1) j (by omega) h1 (by omega)
end Go.Proofs.Ytecjbogconeilaa.Lib
