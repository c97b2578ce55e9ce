/- Plain functions on bidding. No condition. -/
import Derived.Test.YtecjbogconeilaaCards2
namespace Go.Proofs.Ytecjbogconeilaa.Lib
open Go.RowKit Go.Proofs.YtecjbogconeilaaW.PrintWords Go.Proofs.YtecjbogconeilaaW.PrintLast Go.Proofs.YtecjbogconeilaaW.PrintMore
set_option linter.unusedVariables false
set_option linter.unusedSimpArgs false

def highBid (l : List Int) : Int := l.foldl max 0
def callsF (p : Int) (pre : List Int) : List Int → Bool
  | [] => true
  | x :: r => !((decide (x > 0) && decide (x ≤ highBid pre)) || callsEnd p pre) && callsF p (pre ++ [x]) r
def isCalls (p : Int) (l : List Int) : Bool := inR p 2 4 && (l.all (fun x => inR x 0 35) && callsF p [] l)
theorem foldl_max_ge (l : List Int) : ∀ s : Int, s ≤ l.foldl max s := by
  induction l with
  | nil => intro s; exact Int.le_refl _
  | cons x r ih => intro s; have := ih (max s x); simp only [List.foldl_cons]; omega
theorem foldl_max_le (l : List Int) (b : Int) : ∀ s : Int, s ≤ b → (∀ x ∈ l, x ≤ b) → l.foldl max s ≤ b := by
  induction l with
  | nil => intro s h _; exact h
  | cons x r ih => intro s h hx; have := hx x (by simp); exact ih (max s x) (by omega) (fun y hy => hx y (by simp [hy]))
theorem highBid_nonneg (l : List Int) : 0 ≤ highBid l := foldl_max_ge l 0
theorem highBid_le {p : Int} {l : List Int} (h : isCalls p l = true) : highBid l ≤ 35 := by
  simp only [isCalls, Bool.and_eq_true, List.all_eq_true, inR_iff] at h
  exact foldl_max_le l 35 0 (by omega) (fun x hx => (h.2.1 x hx).2)
def placeF (c : Int) : Int → List Int → Int
  | _, [] => -1
  | i, x :: r => if x = c then i else placeF c (i + 1) r
def placeOf (l : List Int) (c : Int) : Int := placeF c 0 l
theorem placeF_range (c : Int) : ∀ (l : List Int) (i : Int), placeF c i l = -1 ∨ (i ≤ placeF c i l ∧ placeF c i l < i + l.length)
  | [], i => .inl rfl
  | x :: r, i => by
    unfold placeF
    split
    · right; simp; omega
    · rcases placeF_range c r (i + 1) with h | h
      · exact .inl h
      · right; simp; omega
def declarer (p : Int) (l : List Int) : Int := if highBid l = 0 then -1 else if isCalls p l = true then (if callsEnd p l = true then (placeOf l (highBid l)).tmod p else -1) else -1
def upF (x : Int) : List Int := (List.range (36 - x).toNat).map fun (j : Nat) => x + (j : Int)
theorem upF_end (x : Int) (h : ¬ x ≤ 35) : upF x = [] := by unfold upF; rw [show (36 - x).toNat = 0 by omega]; rfl
theorem upF_step (x : Int) (h : x ≤ 35) : upF x = x :: upF (x + 1) := by
  unfold upF
  rw [show (36 - x).toNat = (36 - (x + 1)).toNat + 1 by omega, List.range_succ_eq_map, List.map_cons, List.map_map]
  congr 1
  · simp
  · apply List.map_congr_left
    intro j _
    simp only [Function.comp_apply]
    omega
def legalCalls (p : Int) (l : List Int) : List Int := if isCalls p l = true then (if callsEnd p l = true then [] else 0 :: upF (highBid l + 1)) else []
theorem legalCalls_length (p : Int) (l : List Int) : (legalCalls p l).length ≤ 37 := by
  unfold legalCalls upF
  have := highBid_nonneg l
  repeat' split
  all_goals (simp; try omega)

end Go.Proofs.Ytecjbogconeilaa.Lib
