/- Plain functions on cards, patterns and hands, and what is known of them. No condition. -/
import Derived.Test.YtecjbogconeilaaLib
namespace Go.Proofs.Ytecjbogconeilaa.Lib
open Go.RowKit Go.Proofs.YtecjbogconeilaaW.PrintWords Go.Proofs.YtecjbogconeilaaW.PrintLast Go.Proofs.YtecjbogconeilaaW.PrintMore
set_option linter.unusedVariables false
set_option linter.unusedSimpArgs false

/-- low ≤ n ≤ high. -/
def inR (n a b : Int) : Bool := decide (a ≤ n ∧ n ≤ b)
def isCard (c : Int) : Bool := inR c 0 51
def suitOf (c : Int) : Int := if isCard c = true then c / 13 else -1
def rankOf (c : Int) : Int := if isCard c = true then c % 13 else -1
theorem inR_iff (n a b : Int) : inR n a b = true ↔ a ≤ n ∧ n ≤ b := by simp [inR]
theorem inR_no (n a b : Int) : inR n a b = false ↔ ¬ (a ≤ n ∧ n ≤ b) := by simp [inR]
theorem isCard_iff (c : Int) : isCard c = true ↔ 0 ≤ c ∧ c ≤ 51 := inR_iff c 0 51
theorem rankOf_range (c : Int) : -1 ≤ rankOf c ∧ rankOf c ≤ 12 := by unfold rankOf; split <;> omega
theorem suitOf_range (c : Int) : -1 ≤ suitOf c ∧ suitOf c ≤ 3 := by
  unfold suitOf
  split
  · rename_i h; rw [isCard_iff] at h; omega
  · omega
def valueOf (c : Int) : Int := if rankOf c < 0 then 0 else if rankOf c ≤ 8 then rankOf c + 2 else if rankOf c = 12 then 1 else 10
/-- The sum, as int adds. -/
def wsum (s : Int) (l : List Int) : Int := l.foldl (fun a x => wrap64 (a + x)) s
def isRound (p : Int) (l : List Int) : Bool := l.all (fun x => inR x (-1000) 1000) && (inR p 2 6 && (decide ((l.length : Int) = p) && (wsum 0 l == 0)))

/-- The signs of tests. -/
def isLeaf (s : Int) : Bool := inR s 100 103 || (inR s 200 212 || (inR s 300 312 || s == 400))
/-- How many patterns lie there behind signs, if these can stand so. -/
def patF (n : Int) : List Int → Option Int
  | [] => some n
  | s :: r => if isLeaf s = true then patF (n + 1) r else if s = -1 then (if n ≥ 1 then patF n r else none) else if s = -2 ∨ s = -3 then (if n ≥ 2 then patF (n - 1) r else none) else none
def isPattern (p : List Int) : Bool := decide (patF 0 p = some 1) && decide (p.length ≤ 20)
theorem patF_le : ∀ (p : List Int) (n m : Int), patF n p = some m → m ≤ n + p.length
  | [], n, m, h => by simp [patF] at h; simp [h]
  | s :: r, n, m, h => by
    unfold patF at h
    have ih := patF_le r
    split at h
    · have := ih _ _ h; simp; omega
    · split at h
      · split at h
        · have := ih _ _ h; simp; omega
        · cases h
      · split at h
        · split at h
          · have := ih _ _ h; simp; omega
          · cases h
        · cases h
theorem isPattern_pos {p : List Int} (h : isPattern p = true) : 1 ≤ p.length ∧ p.length ≤ 20 := by
  simp [isPattern] at h
  have := patF_le _ _ _ h.1
  omega

/-- Whether a card wins over another one. -/
def beats (a b t : Int) : Bool := isCard a && (isCard b && (if suitOf a = suitOf b then decide (a > b) else suitOf a == t))
theorem rank_gt {a b : Int} (ha : isCard a = true) (hb : isCard b = true) (h : suitOf a = suitOf b) : rankOf a > rankOf b ↔ a > b := by
  unfold suitOf at h
  unfold rankOf
  rw [if_pos ha, if_pos hb] at *
  rw [isCard_iff] at ha hb
  omega
/-- What a card counts in a trick. -/
def pointOf (c : Int) : Int := if rankOf c = 12 then 11 else if rankOf c = 8 then 10 else if rankOf c = 11 then 4 else if rankOf c = 10 then 3 else if rankOf c = 9 then 2 else 0
def pointsW (s : Int) (l : List Int) : Int := l.foldl (fun a c => wrap64 (a + pointOf c)) s

/-- How many passes stand at the head of the calls, told from the last one on. -/
def passF : List Int → Nat
  | [] => 0
  | x :: r => if x = 0 then passF r + 1 else 0
theorem passF_le : ∀ l : List Int, passF l ≤ l.length
  | [] => by simp [passF]
  | x :: r => by unfold passF; have := passF_le r; split <;> simp <;> omega
/-- Whether bidding has ended after n passes in a row. -/
def callsFin (p : Int) (l : List Int) (n : Nat) : Bool := decide (1 ≤ p) && (if n = l.length then decide ((n : Int) ≥ p) else decide ((n : Int) ≥ p - 1))
def callsEnd (p : Int) (l : List Int) : Bool := callsFin p l (passF l.reverse)
theorem rd_rev (l : List Int) (i : Nat) (h : i < l.reverse.length) : rd l ((l.length : Int) - 1 - (i : Int)) = l.reverse[i] := by
  have h2 : i < l.length := by simpa using h
  rw [show (l.length : Int) - 1 - (i : Int) = ((l.length - 1 - i : Nat) : Int) by omega, rd_at l _ (by omega), List.getElem_reverse]

/-- What players get from each other. -/
def fromTricks (l : List Int) : List Int := if inR (l.length : Int) 2 6 = true ∧ (l.all fun x => inR x 0 200) = true then l.map fun x => wrap64 (wrap64 ((l.length : Int) * x) - wsum 0 l) else []
theorem fromTricks_length (l : List Int) : (fromTricks l).length ≤ l.length := by unfold fromTricks; split <;> simp

end Go.Proofs.Ytecjbogconeilaa.Lib
