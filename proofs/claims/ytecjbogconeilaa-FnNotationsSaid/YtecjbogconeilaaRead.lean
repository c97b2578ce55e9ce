/- Patterns read from their texts, as a plain function. No condition. -/
import Derived.Test.YtecjbogconeilaaPatText
namespace Go.Proofs.Ytecjbogconeilaa.Lib
open Go.RowKit Go.Proofs.YtecjbogconeilaaW.PrintWords Go.Proofs.YtecjbogconeilaaW.PrintLast Go.Proofs.YtecjbogconeilaaW.PrintMore
set_option linter.unusedVariables false
set_option linter.unusedSimpArgs false

/-- The pattern that begins at place i, and the place behind it. -/
def rdF (s : ByteArray) : Nat → Nat → Option (List Int × Nat)
  | 0, _ => none
  | n + 1, i =>
    if i < s.size then
      if bt s (i : Int) = 33 then (rdF s n (i + 1)).bind fun a => some (a.1 ++ [-1], a.2)
      else if bt s (i : Int) = 40 then
        (rdF s n (i + 1)).bind fun a => if a.2 < s.size ∧ (bt s (a.2 : Int) = 38 ∨ bt s (a.2 : Int) = 124) then
          (rdF s n (a.2 + 1)).bind fun b => if b.2 < s.size ∧ bt s (b.2 : Int) = 41 then some (a.1 ++ b.1 ++ [if bt s (a.2 : Int) = 124 then -3 else -2], b.2 + 1) else none
          else none
      else if bt s (i : Int) = 114 then some ([400], i + 1)
      else if 0 ≤ idxOf suitLetters (bt s (i : Int)) then some ([100 + idxOf suitLetters (bt s (i : Int))], i + 1)
      else if idxOf rankLetters (bt s (i : Int)) < 0 then none
      else if i + 1 < s.size ∧ bt s ((i + 1 : Nat) : Int) = 43 then some ([300 + idxOf rankLetters (bt s (i : Int))], i + 2)
      else some ([200 + idxOf rankLetters (bt s (i : Int))], i + 1)
    else none
theorem bt_range (s : ByteArray) (i : Nat) : 0 ≤ bt s (i : Int) ∧ bt s (i : Int) < 256 := by
  unfold bt
  split
  · rename_i h
    have := (s[(i : Int).toNat]'h).toNat_lt
    omega
  · omega
theorem bt_byte {s : ByteArray} {i : Nat} (h : i < s.size) : s.extract i (i + 1) = ⟨#[UInt8.ofNat (bt s (i : Int)).toNat]⟩ := by
  rw [bt_nat s i h, Int.toNat_natCast, UInt8.ofNat_toNat]
  refine ByteArray.ext (Array.ext ?_ (fun j h1 h2 => ?_))
  · have : (s.extract i (i + 1)).size = 1 := by rw [ByteArray.size_extract]; omega
    simpa using this
  · have h3 : j = 0 := by simp at h2; omega
    subst h3
    simp only [ByteArray.data_extract, Array.getElem_extract]
    rfl
theorem ext_split (s : ByteArray) {a b c : Nat} (h1 : a ≤ b) (h2 : b ≤ c) : s.extract a c = s.extract a b ++ s.extract b c := by
  refine ByteArray.ext ?_
  rw [ByteArray.data_append, ByteArray.data_extract, ByteArray.data_extract, ByteArray.data_extract, Array.extract_append_extract]
  congr 1 <;> omega
theorem suit_at (n : Nat) (h : n < 256) (h0 : 0 ≤ idxOf suitLetters (n : Int)) : idxOf suitLetters (n : Int) ≤ 3 ∧ letter suitLetters (idxOf suitLetters (n : Int)) = ⟨#[UInt8.ofNat n]⟩ := by
  revert n
  decide +kernel
theorem rank_at (n : Nat) (h : n < 256) (h0 : 0 ≤ idxOf rankLetters (n : Int)) : idxOf rankLetters (n : Int) ≤ 12 ∧ letter rankLetters (idxOf rankLetters (n : Int)) = ⟨#[UInt8.ofNat n]⟩ := by
  revert n
  decide +kernel
/-- What is read is not empty, lies within the text, and has no more signs than bytes. -/
theorem rdF_le (s : ByteArray) : ∀ (n i : Nat) (p : List Int) (e : Nat), rdF s n i = some (p, e) → i < e ∧ e ≤ s.size ∧ p.length + i ≤ e
  | 0, i, p, e, h => by cases h
  | n + 1, i, p, e, h => by
    unfold rdF at h
    split at h
    · rename_i hi
      split at h
      · obtain ⟨⟨a, x⟩, ha, h⟩ := Option.bind_eq_some_iff.1 h
        have := rdF_le s n (i + 1) a x ha
        simp only [Option.some.injEq, Prod.mk.injEq] at h
        obtain ⟨rfl, rfl⟩ := h
        rw [List.length_append, List.length_singleton]; omega
      · split at h
        · obtain ⟨⟨a, x⟩, ha, h⟩ := Option.bind_eq_some_iff.1 h
          have h1 := rdF_le s n (i + 1) a x ha
          simp only at h
          split at h
          · obtain ⟨⟨b, y⟩, hb, h⟩ := Option.bind_eq_some_iff.1 h
            have h2 := rdF_le s n (x + 1) b y hb
            simp only at h
            split at h
            · rename_i hy
              simp only [Option.some.injEq, Prod.mk.injEq] at h
              obtain ⟨rfl, rfl⟩ := h
              simp only [List.length_append, List.length_singleton]; omega
            · cases h
          · cases h
        · split at h
          · simp only [Option.some.injEq, Prod.mk.injEq] at h
            obtain ⟨rfl, rfl⟩ := h
            simp; omega
          · split at h
            · simp only [Option.some.injEq, Prod.mk.injEq] at h
              obtain ⟨rfl, rfl⟩ := h
              simp; omega
            · split at h
              · cases h
              · split at h
                · simp only [Option.some.injEq, Prod.mk.injEq] at h
                  obtain ⟨rfl, rfl⟩ := h
                  simp; omega
                · simp only [Option.some.injEq, Prod.mk.injEq] at h
                  obtain ⟨rfl, rfl⟩ := h
                  simp; omega
    · cases h
theorem pileT_append : ∀ (a b : List Int) (pile : List ByteArray), pileT pile (a ++ b) = pileT (pileT pile a) b
  | [], b, pile => rfl
  | x :: r, b, pile => pileT_append r b (stepX pile x)
theorem pileT_one (pile : List ByteArray) (s : Int) : pileT pile [s] = stepX pile s := rfl
theorem stepX_leaf (pile : List ByteArray) {s : Int} (h : 100 ≤ s) : stepX pile s = pile ++ [signText s] := by
  unfold stepX
  rw [if_neg (by omega), if_neg (by omega), if_neg (by omega)]
theorem stepX_not (pile : List ByteArray) (x : ByteArray) : stepX (pile ++ [x]) (-1) = pile ++ [⟨#[33]⟩ ++ x] := by
  unfold stepX topT
  rw [if_pos rfl]
  simp
theorem stepX_two (pile : List ByteArray) (x y : ByteArray) (op : Int) (h : op = -2 ∨ op = -3) : stepX (pile ++ [x] ++ [y]) op = pile ++ [⟨#[40]⟩ ++ x ++ ⟨#[if op = -3 then 124 else 38]⟩ ++ y ++ ⟨#[41]⟩] := by
  have e1 : (pile ++ [x] ++ [y]).length - 1 = pile.length + 1 := by simp
  have e2 : (pile ++ [x] ++ [y]).length - 2 = pile.length := by simp
  have g1 : topT (pile ++ [x] ++ [y]) 1 = y := by unfold topT; rw [e1]; simp
  have g2 : topT (pile ++ [x] ++ [y]) 2 = x := by unfold topT; rw [e2]; simp
  have g3 : (pile ++ [x] ++ [y]).take pile.length = pile := by rw [List.append_assoc, List.take_left']; rfl
  unfold stepX
  rw [e2, g1, g2, g3]
  rcases h with rfl | rfl
  · rw [if_neg (by omega), if_pos rfl, if_neg (by omega)]
  · rw [if_neg (by omega), if_neg (by omega), if_pos rfl, if_pos rfl]
/-- What is read has the bytes that were read as its text. -/
theorem rdF_text (s : ByteArray) : ∀ (n i : Nat) (p : List Int) (e : Nat), rdF s n i = some (p, e) → ∀ pile, pileT pile p = pile ++ [s.extract i e]
  | 0, i, p, e, h => by cases h
  | n + 1, i, p, e, h => by
    intro pile
    unfold rdF at h
    split at h
    · rename_i hi
      have hb := bt_byte hi
      have hr := bt_range s i
      have hn : ((bt s (i : Int)).toNat : Int) = bt s (i : Int) := by omega
      split at h
      · rename_i hc
        obtain ⟨⟨a, x⟩, ha, h⟩ := Option.bind_eq_some_iff.1 h
        have h1 := rdF_le s n (i + 1) a x ha
        have h2 := rdF_text s n (i + 1) a x ha pile
        simp only [Option.some.injEq, Prod.mk.injEq] at h
        obtain ⟨rfl, rfl⟩ := h
        rw [pileT_append, h2]
        rw [pileT_one, stepX_not, ext_split s (show i ≤ i + 1 by omega) (show i + 1 ≤ x by omega), hb, hc]
        rfl
      · split at h
        · rename_i hc
          obtain ⟨⟨a, x⟩, ha, h⟩ := Option.bind_eq_some_iff.1 h
          have h1 := rdF_le s n (i + 1) a x ha
          have g1 := rdF_text s n (i + 1) a x ha pile
          simp only at h
          split at h
          · rename_i hx
            obtain ⟨⟨b, y⟩, hbb, h⟩ := Option.bind_eq_some_iff.1 h
            have h2 := rdF_le s n (x + 1) b y hbb
            have g2 := rdF_text s n (x + 1) b y hbb (pile ++ [s.extract (i + 1) x])
            simp only at h
            split at h
            · rename_i hy
              simp only [Option.some.injEq, Prod.mk.injEq] at h
              obtain ⟨rfl, rfl⟩ := h
              have hbx := bt_byte hx.1
              have hby := bt_byte hy.1
              rw [hy.2] at hby
              rw [hc] at hb
              rw [pileT_append, pileT_append, g1, g2]
              rw [pileT_one]
              rw [stepX_two _ _ _ _ (by split <;> simp), ext_split s (show i ≤ i + 1 by omega) (show i + 1 ≤ y + 1 by omega), ext_split s (show i + 1 ≤ x by omega) (show x ≤ y + 1 by omega), ext_split s (show x ≤ x + 1 by omega) (show x + 1 ≤ y + 1 by omega), ext_split s (show x + 1 ≤ y by omega) (show y ≤ y + 1 by omega), hb, hbx, hby]
              congr 2
              rcases hx.2 with e | e
              · rw [e]; simp only [ByteArray.append_assoc]; rfl
              · rw [e]; simp only [ByteArray.append_assoc]; rfl
            · cases h
          · cases h
        · split at h
          · rename_i hc
            simp only [Option.some.injEq, Prod.mk.injEq] at h
            obtain ⟨rfl, rfl⟩ := h
            rw [hb, hc]
            rw [pileT_one]
            rw [stepX_leaf _ (by omega)]
            rfl
          · split at h
            · rename_i hc
              rw [← hn] at hc
              have hl := suit_at _ (by omega) hc
              rw [hn] at hl hc
              simp only [Option.some.injEq, Prod.mk.injEq] at h
              obtain ⟨rfl, rfl⟩ := h
              rw [pileT_one]
              rw [stepX_leaf _ (by omega), hb, ← hl.2]
              unfold signText
              rw [if_neg (by omega), if_neg (by omega), if_neg (by omega)]
              congr 3; omega
            · split at h
              · cases h
              · rename_i hc
                have hc2 : 0 ≤ idxOf rankLetters (bt s (i : Int)) := by omega
                rw [← hn] at hc2
                have hl := rank_at _ (by omega) hc2
                rw [hn] at hl hc2
                split at h
                · rename_i hp
                  simp only [Option.some.injEq, Prod.mk.injEq] at h
                  obtain ⟨rfl, rfl⟩ := h
                  have hb2 := bt_byte hp.1
                  rw [hp.2] at hb2
                  rw [pileT_one]
                  rw [stepX_leaf _ (by omega), ext_split s (show i ≤ i + 1 by omega) (show i + 1 ≤ i + 2 by omega), hb, hb2, ← hl.2]
                  unfold signText
                  rw [if_neg (by omega), if_pos (by omega)]
                  congr 3
                  congr 1; omega
                · simp only [Option.some.injEq, Prod.mk.injEq] at h
                  obtain ⟨rfl, rfl⟩ := h
                  rw [pileT_one]
                  rw [stepX_leaf _ (by omega), hb, ← hl.2]
                  unfold signText
                  rw [if_neg (by omega), if_neg (by omega), if_pos (by omega)]
                  congr 3; omega
    · cases h
/-- The first place from i on of a byte in a text. -/
def firstAt (s : ByteArray) (c : Int) : Nat → Nat → Int
  | _, 0 => -1
  | i, m + 1 => if bt s (i : Int) = c then (i : Int) else firstAt s c (i + 1) m
theorem first_suit : ∀ n : Nat, n < 256 → firstAt suitLetters (n : Int) 0 4 = idxOf suitLetters (n : Int) := by decide +kernel
theorem first_rank : ∀ n : Nat, n < 256 → firstAt rankLetters (n : Int) 0 13 = idxOf rankLetters (n : Int) := by decide +kernel
theorem idx_suit_le {c : Int} (h0 : 0 ≤ c) (h1 : c < 256) : idxOf suitLetters c ≤ 3 ∧ -1 ≤ idxOf suitLetters c := by
  obtain ⟨n, rfl⟩ : ∃ n : Nat, c = (n : Int) := ⟨c.toNat, by omega⟩
  rcases suit_idx n (by omega) with h | ⟨j, h2, h3, _⟩ <;> omega
theorem idx_rank_le {c : Int} (h0 : 0 ≤ c) (h1 : c < 256) : idxOf rankLetters c ≤ 12 ∧ -1 ≤ idxOf rankLetters c := by
  obtain ⟨n, rfl⟩ : ∃ n : Nat, c = (n : Int) := ⟨c.toNat, by omega⟩
  rcases rank_idx n (by omega) with h | ⟨j, h2, h3, _⟩ <;> omega
theorem suit_33 : idxOf suitLetters 0 = -1 ∧ idxOf rankLetters 0 = -1 := by decide +kernel
/-- How long the texts of a pile are together. -/
def sizeT (pile : List ByteArray) : Nat := (pile.map ByteArray.size).sum
theorem sizeT_snoc (pile : List ByteArray) (x : ByteArray) : sizeT (pile ++ [x]) = sizeT pile + x.size := by simp [sizeT]
theorem stepX_sizeT {pile : List ByteArray} {s : Int} {r : List Int} {m : Int} (h : patF (pile.length : Int) (s :: r) = some m) : sizeT (stepX pile s) ≤ sizeT pile + 3 := by
  obtain ⟨_, h1, h2, h3, _, h4⟩ := stepX_length h
  have e33 : (⟨#[33]⟩ : ByteArray).size = 1 := rfl
  by_cases c1 : s = -1
  · have hp := h1 c1
    obtain ⟨q, x, rfl⟩ : ∃ q x, pile = q ++ [x] := ⟨pile.dropLast, pile.getLast (by intro e; rw [e] at hp; simp at hp), (List.dropLast_concat_getLast _).symm⟩
    rw [c1, stepX_not, sizeT_snoc, sizeT_snoc, ByteArray.size_append]; omega
  · by_cases c2 : s = -2 ∨ s = -3
    · have hp : 2 ≤ pile.length := by rcases c2 with c | c; exact h2 c; exact h3 c
      obtain ⟨q0, y, rfl⟩ : ∃ q x, pile = q ++ [x] := ⟨pile.dropLast, pile.getLast (by intro e; rw [e] at hp; simp at hp), (List.dropLast_concat_getLast _).symm⟩
      obtain ⟨q, x, rfl⟩ : ∃ q x, q0 = q ++ [x] := ⟨q0.dropLast, q0.getLast (by intro e; rw [e] at hp; simp at hp), (List.dropLast_concat_getLast _).symm⟩
      rw [stepX_two _ _ _ _ c2, sizeT_snoc, sizeT_snoc, sizeT_snoc]
      simp only [ByteArray.size_append]
      have e40 : (⟨#[40]⟩ : ByteArray).size = 1 := rfl
      have e41 : (⟨#[41]⟩ : ByteArray).size = 1 := rfl
      have e2 : (⟨#[if s = -3 then 124 else 38]⟩ : ByteArray).size = 1 := rfl
      omega
    · have hl := h4 c1 (fun e => c2 (.inl e)) (fun e => c2 (.inr e))
      have hc := leaf_cases hl
      rw [stepX_leaf _ (by omega), sizeT_snoc]
      have := signText_size hl
      omega
theorem pileT_sizeT : ∀ (r : List Int) (pile : List ByteArray) (m : Int), patF (pile.length : Int) r = some m → sizeT (pileT pile r) ≤ sizeT pile + 3 * r.length
  | [], pile, m, h => by simp [pileT]
  | s :: r, pile, m, h => by
    have h1 := stepX_sizeT h
    have h2 := pileT_sizeT r (stepX pile s) m (stepX_length h).1
    rw [List.length_cons]
    show sizeT (pileT (stepX pile s) r) ≤ _
    omega
theorem patText_size (p : List Int) : (patText p).size ≤ 60 := by
  unfold patText
  split
  · rename_i hp
    have h20 := isPattern_pos hp
    have hpat : patF 0 p = some 1 := by simp [isPattern] at hp; exact hp.1
    have h := pileT_sizeT p [] 1 (by simpa using hpat)
    have h0 : sizeT [] = 0 := rfl
    have key : ((pileT [] p).getD 0 ByteArray.empty).size ≤ sizeT (pileT [] p) := by
      cases pileT [] p with
      | nil => exact Nat.zero_le _
      | cons x r => show x.size ≤ sizeT (x :: r); unfold sizeT; rw [List.map_cons, List.sum_cons]; omega
    omega
  · exact Nat.zero_le _
/-- The pattern of a text, if the text is just a pattern's. -/
def parsePat (s : ByteArray) : List Int × Bool :=
  match rdF s (s.size + 1) 0 with
  | none => ([], false)
  | some (p, _) => if patText p = s then (p, true) else ([], false)
theorem read_back {s : ByteArray} {n : Nat} {p : List Int} {e : Nat} (h : rdF s n 0 = some (p, e)) (ht : patText p = s) : e = s.size ∧ isPattern p = true := by
  have h1 := rdF_le s n 0 p e h
  have h2 := rdF_text s n 0 p e h []
  unfold patText at ht
  split at ht
  · rename_i hp
    rw [h2] at ht
    have h3 : s.extract 0 e = s := ht
    have h4 : (s.extract 0 e).size = s.size := by rw [h3]
    rw [ByteArray.size_extract] at h4
    exact ⟨by omega, hp⟩
  · have : s.size = 0 := by rw [← ht]; rfl
    omega
theorem parsePat_length (s : ByteArray) : (parsePat s).1.length ≤ 20 := by
  unfold parsePat
  split
  · simp
  · rename_i p e h
    split
    · rename_i ht
      exact (isPattern_pos (read_back h ht).2).2
    · simp
end Go.Proofs.Ytecjbogconeilaa.Lib
