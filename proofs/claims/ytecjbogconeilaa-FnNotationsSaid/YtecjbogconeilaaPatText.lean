/- Patterns as texts, as a plain function. No condition. -/
import Derived.Test.YtecjbogconeilaaPats
import Derived.Test.YtecjbogconeilaaParse
namespace Go.Proofs.Ytecjbogconeilaa.Lib
open Go.RowKit Go.Proofs.YtecjbogconeilaaW.PrintWords Go.Proofs.YtecjbogconeilaaW.PrintLast Go.Proofs.YtecjbogconeilaaW.PrintMore
set_option linter.unusedVariables false
set_option linter.unusedSimpArgs false

def signText (s : Int) : ByteArray := if s = 400 then ⟨#[114]⟩ else if s ≥ 300 then letter rankLetters (s - 300) ++ ⟨#[43]⟩ else if s ≥ 200 then letter rankLetters (s - 200) else letter suitLetters (s - 100)
theorem leaf_cases {s : Int} (h : isLeaf s = true) : (100 ≤ s ∧ s ≤ 103) ∨ (200 ≤ s ∧ s ≤ 212) ∨ (300 ≤ s ∧ s ≤ 312) ∨ s = 400 := by
  simp only [isLeaf, Bool.or_eq_true, inR_iff, beq_iff_eq] at h
  omega
theorem signText_size {s : Int} (h : isLeaf s = true) : (signText s).size ≤ 2 := by
  have hc := leaf_cases h
  have e43 : (⟨#[43]⟩ : ByteArray).size = 1 := rfl
  have e114 : (⟨#[114]⟩ : ByteArray).size = 1 := rfl
  have hr := rankLetters_size
  have hs := suitLetters_size
  unfold signText
  split
  · omega
  · split
    · rw [ByteArray.size_append, letter_size _ _ (by omega) (by omega)]; omega
    · split
      · rw [letter_size _ _ (by omega) (by omega)]; omega
      · rw [letter_size _ _ (by omega) (by omega)]; omega
def topT (pile : List ByteArray) (n : Nat) : ByteArray := pile.getD (pile.length - n) ByteArray.empty
def stepX (pile : List ByteArray) (s : Int) : List ByteArray :=
  if s = -1 then pile.set (pile.length - 1) (⟨#[33]⟩ ++ topT pile 1)
  else if s = -2 then pile.take (pile.length - 2) ++ [⟨#[40]⟩ ++ topT pile 2 ++ ⟨#[38]⟩ ++ topT pile 1 ++ ⟨#[41]⟩]
  else if s = -3 then pile.take (pile.length - 2) ++ [⟨#[40]⟩ ++ topT pile 2 ++ ⟨#[124]⟩ ++ topT pile 1 ++ ⟨#[41]⟩]
  else pile ++ [signText s]
def pileT : List ByteArray → List Int → List ByteArray
  | pile, [] => pile
  | pile, s :: r => pileT (stepX pile s) r
theorem stepX_len (pile : List ByteArray) (s : Int) : (stepX pile s).length = (stepP 0 (pile.map fun _ => false) s).length := by
  unfold stepX stepP
  simp only [List.length_map]
  split
  · simp
  · split
    · simp
    · split <;> simp
theorem stepX_length {pile : List ByteArray} {s : Int} {r : List Int} {m : Int} (h : patF (pile.length : Int) (s :: r) = some m) :
    patF ((stepX pile s).length : Int) r = some m ∧ (s = -1 → 1 ≤ pile.length) ∧ (s = -2 → 2 ≤ pile.length) ∧ (s = -3 → 2 ≤ pile.length) ∧ (stepX pile s).length ≤ pile.length + 1 ∧ (s ≠ -1 → s ≠ -2 → s ≠ -3 → isLeaf s = true) := by
  have := step_length (c := 0) (pile := pile.map fun _ => false) (by simpa using h)
  rw [← stepX_len] at this
  simpa using this
theorem topT_size {pile : List ByteArray} {b : Nat} (h : ∀ x ∈ pile, x.size + 3 ≤ b) (hb : 3 ≤ b) (n : Nat) : (topT pile n).size + 3 ≤ b := by
  unfold topT
  rw [List.getD_eq_getElem?_getD]
  cases e : pile[pile.length - n]? with
  | none => have : (ByteArray.empty).size = 0 := rfl
            simp only [Option.getD_none]; omega
  | some x => exact h x (List.mem_of_getElem? e)
theorem stepX_size {pile : List ByteArray} {s : Int} {b : Nat} (h : ∀ x ∈ pile, x.size + 3 ≤ b) (hb : 3 ≤ b) (hs : s ≠ -1 → s ≠ -2 → s ≠ -3 → isLeaf s = true) : ∀ x ∈ stepX pile s, x.size + 3 ≤ 2 * b := by
  have h1 := topT_size h hb 1
  have h2 := topT_size h hb 2
  have e33 : (⟨#[33]⟩ : ByteArray).size = 1 := rfl
  have e40 : (⟨#[40]⟩ : ByteArray).size = 1 := rfl
  have e38 : (⟨#[38]⟩ : ByteArray).size = 1 := rfl
  have e41 : (⟨#[41]⟩ : ByteArray).size = 1 := rfl
  have e124 : (⟨#[124]⟩ : ByteArray).size = 1 := rfl
  intro x hx
  unfold stepX at hx
  split at hx
  · rcases List.mem_or_eq_of_mem_set hx with hx | rfl
    · have := h x hx; omega
    · rw [ByteArray.size_append]; omega
  · split at hx
    · rcases List.mem_append.1 hx with hx | hx
      · have := h x (List.mem_of_mem_take hx); omega
      · rw [List.mem_singleton.1 hx]; simp only [ByteArray.size_append]; omega
    · split at hx
      · rcases List.mem_append.1 hx with hx | hx
        · have := h x (List.mem_of_mem_take hx); omega
        · rw [List.mem_singleton.1 hx]; simp only [ByteArray.size_append]; omega
      · rename_i a1 a2 a3
        rcases List.mem_append.1 hx with hx | hx
        · have := h x hx; omega
        · rw [List.mem_singleton.1 hx]
          have := signText_size (hs a1 a2 a3)
          omega
def patText (p : List Int) : ByteArray := if isPattern p = true then (pileT [] p).getD 0 ByteArray.empty else ⟨#[]⟩
end Go.Proofs.Ytecjbogconeilaa.Lib
