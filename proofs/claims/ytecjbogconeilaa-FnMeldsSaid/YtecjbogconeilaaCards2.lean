/- More plain functions on cards and patterns: texts, opposites. No condition. -/
import Derived.Test.YtecjbogconeilaaCards
namespace Go.Proofs.Ytecjbogconeilaa.Lib
open Go.RowKit Go.Proofs.YtecjbogconeilaaW.PrintWords Go.Proofs.YtecjbogconeilaaW.PrintLast Go.Proofs.YtecjbogconeilaaW.PrintMore
set_option linter.unusedVariables false
set_option linter.unusedSimpArgs false

def rankLetters : ByteArray := ⟨#[50, 51, 52, 53, 54, 55, 56, 57, 84, 74, 81, 75, 65]⟩
def suitLetters : ByteArray := ⟨#[99, 100, 104, 115]⟩
def letter (s : ByteArray) (i : Int) : ByteArray := s.extract i.toNat (i + 1).toNat
theorem letter_size (s : ByteArray) (i : Int) (h0 : 0 ≤ i) (h1 : i < (s.size : Int)) : (letter s i).size = 1 := by
  unfold letter
  rw [ByteArray.size_extract]
  omega
theorem rankLetters_size : rankLetters.size = 13 := rfl
theorem suitLetters_size : suitLetters.size = 4 := rfl
def cardText (c : Int) : ByteArray := if isCard c = true then letter rankLetters (rankOf c) ++ letter suitLetters (suitOf c) else ⟨#[]⟩
theorem card_ranges {c : Int} (h : isCard c = true) : 0 ≤ rankOf c ∧ rankOf c ≤ 12 ∧ 0 ≤ suitOf c ∧ suitOf c ≤ 3 := by
  have h2 := (isCard_iff c).1 h
  unfold rankOf suitOf
  rw [if_pos h, if_pos h]
  omega
theorem cardText_size {c : Int} (h : isCard c = true) : (cardText c).size = 2 := by
  have h2 := card_ranges h
  unfold cardText
  rw [if_pos h, ByteArray.size_append, letter_size _ _ (by omega) (by rw [rankLetters_size]; omega), letter_size _ _ (by omega) (by rw [suitLetters_size]; omega)]
/-- A card's text, "?" for other numbers. -/
def cardTxt (c : Int) : ByteArray := if isCard c = true then cardText c else ⟨#[63]⟩
def textF (s : ByteArray) (l : List Int) : ByteArray := l.foldl (fun s c => s ++ cardTxt c) s
theorem cardTxt_size (c : Int) : (cardTxt c).size ≤ 2 := by
  unfold cardTxt
  split
  · rename_i h; rw [cardText_size h]; omega
  · exact Nat.le_of_lt_succ (by decide)
def handText (l : List Int) : ByteArray := if l = [] then ⟨#[45]⟩ else textF ⟨#[]⟩ l
def notPattern (p : List Int) : List Int := if isPattern (p ++ [-1]) = true then p ++ [-1] else []
theorem notPattern_length (p : List Int) : (notPattern p).length ≤ p.length + 1 := by unfold notPattern; split <;> simp

end Go.Proofs.Ytecjbogconeilaa.Lib
