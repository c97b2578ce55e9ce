/- Plain functions on hands of cards. No condition. -/
import Derived.Test.YtecjbogconeilaaCalls
namespace Go.Proofs.Ytecjbogconeilaa.Lib
open Go.RowKit Go.Proofs.YtecjbogconeilaaW.PrintWords Go.Proofs.YtecjbogconeilaaW.PrintLast Go.Proofs.YtecjbogconeilaaW.PrintMore
set_option linter.unusedVariables false
set_option linter.unusedSimpArgs false

def hasCard (l : List Int) (c : Int) : Bool := decide (c ∈ l)
def handF (pre : List Int) : List Int → Bool
  | [] => true
  | x :: r => isCard x && (!(hasCard pre x) && handF (pre ++ [x]) r)
def isHand (l : List Int) : Bool := handF [] l
theorem handF_iff : ∀ (l pre : List Int), handF pre l = true ↔ (∀ x ∈ l, isCard x = true) ∧ (∀ x ∈ l, x ∉ pre) ∧ l.Nodup
  | [], pre => by simp [handF]
  | x :: r, pre => by
    unfold handF hasCard
    rw [Bool.and_eq_true, Bool.and_eq_true, handF_iff r (pre ++ [x])]
    simp only [Bool.not_eq_true', decide_eq_false_iff_not, List.mem_cons, List.mem_append, List.not_mem_nil, or_false, forall_eq_or_imp, List.nodup_cons, not_or]
    constructor
    · rintro ⟨h1, h2, h3, h4, h5⟩
      exact ⟨⟨h1, h3⟩, ⟨h2, fun y hy => (h4 y hy).1⟩, fun hx => (h4 x hx).2 rfl, h5⟩
    · rintro ⟨⟨h1, h3⟩, ⟨h2, h4⟩, h6, h5⟩
      exact ⟨h1, h2, h3, fun y hy => ⟨h4 y hy, fun e => h6 (e ▸ hy)⟩, h5⟩
theorem isHand_iff (l : List Int) : isHand l = true ↔ (∀ x ∈ l, isCard x = true) ∧ l.Nodup := by
  unfold isHand
  rw [handF_iff]
  simp
theorem placeF_mem (c : Int) : ∀ (l : List Int) (i : Int), 0 ≤ i → (placeF c i l ≥ 0 ↔ c ∈ l)
  | [], i, h => by simp [placeF]
  | x :: r, i, h => by
    unfold placeF
    split
    · rename_i hx; simp [hx, h]
    · rename_i hx
      rw [placeF_mem c r (i + 1) (by omega), List.mem_cons]
      exact ⟨fun h => .inr h, fun h => h.resolve_left (fun e => hx e.symm)⟩
theorem placeOf_nonneg (l : List Int) (c : Int) : placeOf l c ≥ 0 ↔ c ∈ l := placeF_mem c l 0 (by omega)
def setMeld (l : List Int) : Bool := isHand l && (inR (l.length : Int) 3 4 && l.all fun c => decide (rankOf c = rankOf (rd l 0)))
def mayPlay (hand trick : List Int) (c : Int) : Bool :=
  isHand hand && (hasCard hand c && ((decide (trick.length = 0) || decide (suitOf c = suitOf (rd trick 0))) || hand.all fun x => !decide (suitOf x = suitOf (rd trick 0))))
/-- The card that wins, from place i on, k being the best so far. -/
def winF (trick : List Int) (t : Int) : Int → Int → List Int → Int
  | k, _, [] => k
  | k, i, c :: r => winF trick t (if beats c (rd trick k) t = true then i else k) (i + 1) r
def winnerOf (trick : List Int) (t : Int) : Int := if trick.length = 0 then -1 else if isHand trick = true then winF trick t 0 0 trick else -1

def lineAt (l : List (List Int)) (i : Int) : List Int := l.getD i.toNat []
theorem lineAt_length {l : List (List Int)} {b : Nat} (h : ∀ r ∈ l, r.length ≤ b) (i : Int) : (lineAt l i).length ≤ b := by
  unfold lineAt
  rw [List.getD_eq_getElem?_getD]
  cases hh : l[i.toNat]? with
  | none => simp
  | some r => exact h r (List.mem_of_getElem? hh)
def followF (hands : List (List Int)) (leader : Int) : List Int → Int → List Int → Bool
  | _, _, [] => true
  | pre, i, c :: r => mayPlay (lineAt hands ((leader + i).tmod (hands.length : Int))) pre c && followF hands leader (pre ++ [c]) (i + 1) r
def isFollowed (hands : List (List Int)) (trick : List Int) (leader : Int) : Bool := decide (hands.length = trick.length) && (inR leader 0 ((hands.length : Int) - 1) && followF hands leader [] 0 trick)
theorem beats_self (c t : Int) : beats c c t = false := by simp [beats]

end Go.Proofs.Ytecjbogconeilaa.Lib
