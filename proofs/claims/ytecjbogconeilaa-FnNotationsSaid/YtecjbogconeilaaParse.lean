/- Cards and hands as texts, read back. No condition. -/
import Derived.Test.YtecjbogconeilaaSort
import Derived.Lib.Strings
import Derived.Lib.Bytealg
namespace Go.Proofs.Ytecjbogconeilaa.Lib
open Go.RowKit Go.Proofs.YtecjbogconeilaaW.PrintWords Go.Proofs.YtecjbogconeilaaW.PrintLast Go.Proofs.YtecjbogconeilaaW.PrintMore
set_option linter.unusedVariables false
set_option linter.unusedSimpArgs false

theorem bytes_eq {a b : ByteArray} : a.toList = b.toList ↔ a = b := by
  rw [Go.Lib.toList_data, Go.Lib.toList_data]
  refine ⟨fun h => ByteArray.ext (Array.ext' h), fun h => by rw [h]⟩
/-- The place of a byte in a text of letters. -/
def idxOf (s : ByteArray) (c : Int) : Int := Go.Lib.indexByte s.data.toList c.toNat.toUInt8
/-- The card of a text of two bytes. -/
def parseC (s : ByteArray) : Int := if s.size = 2 then (if idxOf rankLetters (bt s 0) < 0 ∨ idxOf suitLetters (bt s 1) < 0 then -1 else idxOf suitLetters (bt s 1) * 13 + idxOf rankLetters (bt s 0)) else -1
theorem rank_idx : ∀ n : Nat, n < 256 → idxOf rankLetters (n : Int) = -1 ∨ ∃ j : Nat, j < 13 ∧ idxOf rankLetters (n : Int) = (j : Int) ∧ rankLetters.data.toList[j]? = some (UInt8.ofNat n) := by decide +kernel
theorem suit_idx : ∀ n : Nat, n < 256 → idxOf suitLetters (n : Int) = -1 ∨ ∃ j : Nat, j < 4 ∧ idxOf suitLetters (n : Int) = (j : Int) ∧ suitLetters.data.toList[j]? = some (UInt8.ofNat n) := by decide +kernel
theorem parse_card : ∀ n : Nat, n < 52 → parseC (cardText (n : Int)) = (n : Int) := by decide +kernel
theorem card_bytes : ∀ u : Nat, u < 4 → ∀ r : Nat, r < 13 → ∀ a b : UInt8, rankLetters.data.toList[r]? = some a → suitLetters.data.toList[u]? = some b → cardText ((u * 13 + r : Nat) : Int) = ⟨#[a, b]⟩ := by
  have key : ∀ u : Nat, u < 4 → ∀ r : Nat, r < 13 → some (cardText ((u * 13 + r : Nat) : Int)) = (rankLetters.data.toList[r]?).bind (fun a => (suitLetters.data.toList[u]?).map (fun b => ⟨#[a, b]⟩)) := by decide +kernel
  intro u hu r hr a b h1 h2
  have := key u hu r hr
  rw [h1, h2] at this
  exact Option.some.inj this
theorem bt_nat (s : ByteArray) (i : Nat) (h : i < s.size) : bt s (i : Int) = ((s[i]'h).toNat : Int) := by
  rw [← bt_at s (i : Int) (by simpa using h)]
  simp
theorem two_bytes {s : ByteArray} (h : s.size = 2) : s = ⟨#[s[0]'(by omega), s[1]'(by omega)]⟩ := by
  have h2 : s.data.size = 2 := h
  refine ByteArray.ext (Array.ext (by simpa using h2) (fun i h1 h3 => ?_))
  have : i = 0 ∨ i = 1 := by simp at h3; omega
  rcases this with rfl | rfl <;> rfl
theorem parseC_card {s : ByteArray} (h : 0 ≤ parseC s) : parseC s ≤ 51 ∧ cardText (parseC s) = s := by
  unfold parseC at h ⊢
  by_cases h2 : s.size = 2
  · rw [if_pos h2] at h ⊢
    have e0 : bt s 0 = ((s[0]'(by omega)).toNat : Int) := bt_nat s 0 (by omega)
    have e1 : bt s 1 = ((s[1]'(by omega)).toNat : Int) := bt_nat s 1 (by omega)
    rw [e0, e1] at h ⊢
    rcases rank_idx _ (s[0]'(by omega)).toNat_lt with hr | ⟨r, hr, er, kr⟩
    · rw [if_pos (.inl (by omega))] at h; omega
    rcases suit_idx _ (s[1]'(by omega)).toNat_lt with hu | ⟨u, hu, eu, ku⟩
    · rw [if_pos (.inr (by omega))] at h; omega
    rw [if_neg (by omega), er, eu]
    refine ⟨by omega, ?_⟩
    rw [UInt8.ofNat_toNat] at kr ku
    have := card_bytes u hu r hr _ _ kr ku
    rw [show ((u * 13 + r : Nat) : Int) = (u : Int) * 13 + (r : Int) by simp] at this
    rw [this]
    exact (two_bytes h2).symm
  · rw [if_neg h2] at h; omega
theorem parseC_neg {s : ByteArray} (h : ¬ 0 ≤ parseC s) : parseC s = -1 := by
  unfold parseC at h ⊢
  split
  · rename_i h2
    rw [if_pos h2] at h
    split
    · rfl
    · rename_i h3; rw [if_neg h3] at h; omega
  · rfl
theorem parseC_of {s : ByteArray} {c : Nat} (hc : c < 52) (h : cardText (c : Int) = s) : parseC s = (c : Int) := by rw [← h]; exact parse_card c hc
/-- The cards of a text, two bytes a card. -/
def cardsOf (s : ByteArray) (n : Nat) : List Int := (List.range n).map fun (j : Nat) => parseC (s.extract (2 * j) (2 * j + 2))
theorem cardsOf_succ (s : ByteArray) (n : Nat) : cardsOf s (n + 1) = cardsOf s n ++ [parseC (s.extract (2 * n) (2 * n + 2))] := by unfold cardsOf; rw [List.range_succ, List.map_append]; rfl
theorem cardsOf_length (s : ByteArray) (n : Nat) : (cardsOf s n).length = n := by simp [cardsOf]
def parseHand (s : ByteArray) : List Int × Bool := if isHand (cardsOf s (s.size / 2)) = true then (if handText (cardsOf s (s.size / 2)) = s then (cardsOf s (s.size / 2), true) else ([], false)) else ([], false)
theorem textF_append (l : List Int) : ∀ (s : ByteArray) (c : Int), textF s (l ++ [c]) = textF s l ++ cardTxt c := by
  intro s c; unfold textF; rw [List.foldl_append]; rfl
theorem textF_size (l : List Int) : ∀ (s : ByteArray), (∀ x ∈ l, isCard x = true) → (textF s l).size = s.size + 2 * l.length := by
  induction l with
  | nil => intro s _; simp [textF]
  | cons x r ih =>
    intro s h
    show (textF (s ++ cardTxt x) r).size = _
    rw [ih _ (fun y hy => h y (by simp [hy])), ByteArray.size_append]
    have : (cardTxt x).size = 2 := by unfold cardTxt; rw [if_pos (h x (by simp))]; exact cardText_size (h x (by simp))
    rw [this, List.length_cons]; omega
theorem text_back (s : ByteArray) : ∀ n, 2 * n ≤ s.size → (∀ x ∈ cardsOf s n, isCard x = true) → textF ⟨#[]⟩ (cardsOf s n) = s.extract 0 (2 * n)
  | 0, _, _ => by simp [cardsOf, textF]; rfl
  | n + 1, hn, h => by
    rw [cardsOf_succ] at h ⊢
    rw [textF_append, text_back s n (by omega) (fun x hx => h x (by simp [hx]))]
    have hc := h (parseC (s.extract (2 * n) (2 * n + 2))) (by simp)
    have hp : 0 ≤ parseC (s.extract (2 * n) (2 * n + 2)) := ((isCard_iff _).1 hc).1
    have e : cardTxt (parseC (s.extract (2 * n) (2 * n + 2))) = s.extract (2 * n) (2 * n + 2) := by
      unfold cardTxt; rw [if_pos hc]; exact (parseC_card hp).2
    rw [e, ByteArray.extract_append_extract]
    congr 1
    omega
theorem asc_ge : ∀ (l : List Int) (a : Int), Asc l → l.Nodup → (∀ x ∈ l, a ≤ x) → ∀ x ∈ l.getLast?, a + (l.length : Int) - 1 ≤ x
  | [], _, _, _, _ => by simp
  | [y], a, _, _, h => by intro x hx; simp at hx; subst hx; have := h y (by simp); simp; omega
  | y :: z :: r, a, ha, hd, h => by
    intro x hx
    unfold Asc at ha
    rw [List.pairwise_cons] at ha
    rw [List.nodup_cons] at hd
    have hy := h y (by simp)
    have := asc_ge (z :: r) (a + 1) ha.2 hd.2 (fun w hw => by
      have h1 := ha.1 w hw
      have h2 : w ≠ y := fun e => hd.1 (e ▸ hw)
      omega) x (by simpa using hx)
    simp only [List.length_cons] at this ⊢
    omega
theorem hand_le {l : List Int} (h : isHand l = true) : l.length ≤ 52 := by
  rw [isHand_iff] at h
  have hs := asc_ge (sorted l) 0 (sorted_asc l) (sorted_nodup h.2) (fun x hx => ((isCard_iff x).1 (h.1 x (mem_sorted.1 hx))).1)
  rw [sorted_length] at hs
  cases e : (sorted l).getLast? with
  | none =>
    have h1 : sorted l = [] := List.getLast?_eq_none_iff.1 e
    have h2 := sorted_length l
    rw [h1] at h2
    simp at h2
    omega
  | some x =>
    have h1 := hs x (by rw [e]; rfl)
    have h2 : x ∈ sorted l := List.mem_of_getLast? e
    have := (isCard_iff x).1 (h.1 x (mem_sorted.1 h2))
    omega
theorem hand_size {l : List Int} (h : isHand l = true) (hl : l ≠ []) : (handText l).size = 2 * l.length := by
  unfold handText
  rw [if_neg hl, textF_size l _ ((isHand_iff l).1 h).1]
  have e : (⟨#[]⟩ : ByteArray).size = 0 := rfl
  omega
theorem parse_dash : parseHand ⟨#[45]⟩ = ([], true) := by decide +kernel
theorem parse_odd {s : ByteArray} (h : s.size % 2 = 1) (hs : s ≠ ⟨#[45]⟩) : parseHand s = ([], false) := by
  unfold parseHand
  split
  · rename_i hh
    split
    · rename_i he
      by_cases h0 : cardsOf s (s.size / 2) = []
      · rw [h0] at he; exact absurd he.symm hs
      · have := hand_size hh h0
        rw [he, cardsOf_length] at this
        omega
    · rfl
  · rfl
theorem parse_even {s : ByteArray} (h : s.size % 2 = 0) (h0 : s.size ≠ 0) : parseHand s = if isHand (cardsOf s (s.size / 2)) = true then (cardsOf s (s.size / 2), true) else ([], false) := by
  unfold parseHand
  split
  · rename_i hh
    have hc := ((isHand_iff _).1 hh).1
    have hne : cardsOf s (s.size / 2) ≠ [] := fun e => by have := cardsOf_length s (s.size / 2); rw [e] at this; simp at this; omega
    have e : handText (cardsOf s (s.size / 2)) = s := by
      unfold handText
      rw [if_neg hne, text_back s _ (by omega) hc, show 2 * (s.size / 2) = s.size by omega, ByteArray.extract_zero_size]
    rw [if_pos e]
  · rfl
theorem parse_none : parseHand ⟨#[]⟩ = ([], false) := by decide +kernel
theorem parse_long {s : ByteArray} (h : s.size > 104) : parseHand s = ([], false) := by
  unfold parseHand
  split
  · rename_i hh
    have := hand_le hh
    rw [cardsOf_length] at this
    split
    · rename_i he
      by_cases h0 : cardsOf s (s.size / 2) = []
      · rw [h0] at he
        have : s.size = 1 := by rw [← he]; rfl
        omega
      · have := hand_size hh h0
        rw [he, cardsOf_length] at this
        omega
    · rfl
  · rfl
theorem parseHand_length (s : ByteArray) : (parseHand s).1.length ≤ 52 := by
  unfold parseHand
  split
  · rename_i hh
    split
    · exact hand_le hh
    · simp
  · simp
end Go.Proofs.Ytecjbogconeilaa.Lib
