/- Texts read back: patterns and hands. No condition. -/
import Derived.Test.YtecjbogconeilaaRead
namespace Go.Proofs.Ytecjbogconeilaa.Lib
open Go.RowKit Go.Proofs.YtecjbogconeilaaW.PrintWords Go.Proofs.YtecjbogconeilaaW.PrintLast Go.Proofs.YtecjbogconeilaaW.PrintMore
set_option linter.unusedVariables false
set_option linter.unusedSimpArgs false

theorem bt_right (X Y : ByteArray) (j : Nat) (h : j < Y.size) : bt (X ++ Y) ((X.size + j : Nat) : Int) = bt Y (j : Int) := by
  rw [bt_nat (X ++ Y) (X.size + j) (by rw [ByteArray.size_append]; omega), bt_nat Y j h, ByteArray.getElem_append_right (by omega)]
  simp only [Nat.add_sub_cancel_left]
theorem bt_mid (A : ByteArray) (x : UInt8) (B : ByteArray) : bt (A ++ ⟨#[x]⟩ ++ B) (A.size : Int) = (x.toNat : Int) := by
  rw [ByteArray.append_assoc]
  have h := bt_right A (⟨#[x]⟩ ++ B) 0 (by rw [ByteArray.size_append]; have : (⟨#[x]⟩ : ByteArray).size = 1 := rfl; omega)
  rw [Nat.add_zero] at h
  rw [h, bt_nat _ 0 (by rw [ByteArray.size_append]; have : (⟨#[x]⟩ : ByteArray).size = 1 := rfl; omega), ByteArray.getElem_append_left (by have : (⟨#[x]⟩ : ByteArray).size = 1 := rfl; omega)]
  rfl
theorem size1 (x : UInt8) : (⟨#[x]⟩ : ByteArray).size = 1 := rfl
/-- Not a plus ahead. -/
def noPlus (B : ByteArray) : Prop := B.size = 0 ∨ bt B 0 ≠ 43
theorem noPlus_cons (x : UInt8) (B : ByteArray) (h : (x.toNat : Int) ≠ 43) : noPlus (⟨#[x]⟩ ++ B) := by
  right
  have := bt_mid ByteArray.empty x B
  rw [ByteArray.empty_append] at this
  have e : ((ByteArray.empty.size : Nat) : Int) = 0 := rfl
  rw [e] at this
  rw [this]; exact h
/-- A text that is read back as a pattern, wherever it stands. -/
def Good (T : ByteArray) (q : List Int) : Prop :=
  1 ≤ T.size ∧ ∀ (A B : ByteArray) (n : Nat), noPlus B → (A ++ T ++ B).size < A.size + n → rdF (A ++ T ++ B) n A.size = some (q, A.size + T.size)
theorem suit_tab : ∀ j : Nat, j < 4 → ∃ b : UInt8, letter suitLetters (j : Int) = ⟨#[b]⟩ ∧ (b.toNat : Int) ≠ 33 ∧ (b.toNat : Int) ≠ 40 ∧ (b.toNat : Int) ≠ 114 ∧ idxOf suitLetters (b.toNat : Int) = (j : Int) := by
  have key : ∀ j : Nat, j < 4 → letter suitLetters (j : Int) = ⟨#[[99, 100, 104, 115].getD j 0]⟩ ∧ ((([99, 100, 104, 115] : List UInt8).getD j 0).toNat : Int) ≠ 33 ∧ ((([99, 100, 104, 115] : List UInt8).getD j 0).toNat : Int) ≠ 40 ∧ ((([99, 100, 104, 115] : List UInt8).getD j 0).toNat : Int) ≠ 114 ∧ idxOf suitLetters ((([99, 100, 104, 115] : List UInt8).getD j 0).toNat : Int) = (j : Int) := by decide +kernel
  exact fun j hj => ⟨_, key j hj⟩
theorem rank_tab : ∀ j : Nat, j < 13 → ∃ b : UInt8, letter rankLetters (j : Int) = ⟨#[b]⟩ ∧ (b.toNat : Int) ≠ 33 ∧ (b.toNat : Int) ≠ 40 ∧ (b.toNat : Int) ≠ 114 ∧ idxOf suitLetters (b.toNat : Int) = -1 ∧ idxOf rankLetters (b.toNat : Int) = (j : Int) := by
  have key : ∀ j : Nat, j < 13 → letter rankLetters (j : Int) = ⟨#[[50, 51, 52, 53, 54, 55, 56, 57, 84, 74, 81, 75, 65].getD j 0]⟩ ∧ ((([50, 51, 52, 53, 54, 55, 56, 57, 84, 74, 81, 75, 65] : List UInt8).getD j 0).toNat : Int) ≠ 33 ∧ ((([50, 51, 52, 53, 54, 55, 56, 57, 84, 74, 81, 75, 65] : List UInt8).getD j 0).toNat : Int) ≠ 40 ∧ ((([50, 51, 52, 53, 54, 55, 56, 57, 84, 74, 81, 75, 65] : List UInt8).getD j 0).toNat : Int) ≠ 114 ∧ idxOf suitLetters ((([50, 51, 52, 53, 54, 55, 56, 57, 84, 74, 81, 75, 65] : List UInt8).getD j 0).toNat : Int) = -1 ∧ idxOf rankLetters ((([50, 51, 52, 53, 54, 55, 56, 57, 84, 74, 81, 75, 65] : List UInt8).getD j 0).toNat : Int) = (j : Int) := by decide +kernel
  exact fun j hj => ⟨_, key j hj⟩
theorem good_leaf {v : Int} (h : isLeaf v = true) : Good (signText v) [v] := by
  have hc := leaf_cases h
  have e43 : ((⟨#[43]⟩ : ByteArray)).size = 1 := rfl
  unfold signText
  rcases hc with hc | hc | hc | hc
  · rw [if_neg (by omega), if_neg (by omega), if_neg (by omega)]
    obtain ⟨j, hj, rfl⟩ : ∃ j : Nat, j < 4 ∧ v = 100 + (j : Int) := ⟨(v - 100).toNat, by omega, by omega⟩
    obtain ⟨b, h1, h2, h3, h4, h5⟩ := suit_tab j hj
    rw [show 100 + (j : Int) - 100 = (j : Int) by omega, h1]
    refine ⟨by rw [size1]; omega, fun A B n hB hn => ?_⟩
    simp only [ByteArray.size_append, size1] at hn
    obtain ⟨n, rfl⟩ : ∃ m, n = m + 1 := ⟨n - 1, by omega⟩
    unfold rdF
    rw [bt_mid, if_pos (by simp only [ByteArray.size_append, size1]; omega), if_neg h2, if_neg h3, if_neg h4, h5, if_pos (by omega), size1]
  · rw [if_neg (by omega), if_neg (by omega), if_pos (by omega)]
    obtain ⟨j, hj, rfl⟩ : ∃ j : Nat, j < 13 ∧ v = 200 + (j : Int) := ⟨(v - 200).toNat, by omega, by omega⟩
    obtain ⟨b, h1, h2, h3, h4, h5, h6⟩ := rank_tab j hj
    rw [show 200 + (j : Int) - 200 = (j : Int) by omega, h1]
    refine ⟨by rw [size1]; omega, fun A B n hB hn => ?_⟩
    simp only [ByteArray.size_append, size1] at hn
    obtain ⟨n, rfl⟩ : ∃ m, n = m + 1 := ⟨n - 1, by omega⟩
    have hs : (A ++ ⟨#[b]⟩).size = A.size + 1 := by rw [ByteArray.size_append, size1]
    have hp : ¬ (A.size + 1 < (A ++ ⟨#[b]⟩ ++ B).size ∧ bt (A ++ ⟨#[b]⟩ ++ B) ((A.size + 1 : Nat) : Int) = 43) := by
      rintro ⟨g1, g2⟩
      rw [ByteArray.size_append, hs] at g1
      rcases hB with hB | hB
      · omega
      · have := bt_right (A ++ ⟨#[b]⟩) B 0 (by omega)
        rw [hs, Nat.add_zero, g2] at this
        exact hB this.symm
    unfold rdF
    rw [bt_mid, if_pos (by simp only [ByteArray.size_append, size1]; omega), if_neg h2, if_neg h3, if_neg h4, h5, if_neg (by omega), h6, if_neg (by omega), if_neg hp, size1]
  · rw [if_neg (by omega), if_pos (by omega)]
    obtain ⟨j, hj, rfl⟩ : ∃ j : Nat, j < 13 ∧ v = 300 + (j : Int) := ⟨(v - 300).toNat, by omega, by omega⟩
    obtain ⟨b, h1, h2, h3, h4, h5, h6⟩ := rank_tab j hj
    rw [show 300 + (j : Int) - 300 = (j : Int) by omega, h1]
    refine ⟨by rw [ByteArray.size_append, size1]; omega, fun A B n hB hn => ?_⟩
    simp only [ByteArray.size_append, size1] at hn
    obtain ⟨n, rfl⟩ : ∃ m, n = m + 1 := ⟨n - 1, by omega⟩
    have hs : (A ++ ⟨#[b]⟩).size = A.size + 1 := by rw [ByteArray.size_append, size1]
    have ea : A ++ (⟨#[b]⟩ ++ ⟨#[43]⟩) ++ B = A ++ ⟨#[b]⟩ ++ (⟨#[43]⟩ ++ B) := by simp only [ByteArray.append_assoc]
    have hp : A.size + 1 < (A ++ ⟨#[b]⟩ ++ (⟨#[43]⟩ ++ B)).size ∧ bt (A ++ ⟨#[b]⟩ ++ (⟨#[43]⟩ ++ B)) ((A.size + 1 : Nat) : Int) = 43 := by
      refine ⟨by rw [ByteArray.size_append, hs, ByteArray.size_append, e43]; omega, ?_⟩
      have := bt_mid (A ++ ⟨#[b]⟩) 43 B
      rw [hs, ByteArray.append_assoc] at this
      exact this
    rw [ea]
    unfold rdF
    rw [bt_mid, if_pos (by rw [ByteArray.size_append, hs]; omega), if_neg h2, if_neg h3, if_neg h4, h5, if_neg (by omega), h6, if_neg (by omega), if_pos hp, ByteArray.size_append, size1, e43]
  · rw [if_pos hc, hc]
    refine ⟨by rw [size1]; omega, fun A B n hB hn => ?_⟩
    simp only [ByteArray.size_append, size1] at hn
    obtain ⟨n, rfl⟩ : ∃ m, n = m + 1 := ⟨n - 1, by omega⟩
    have e : ((114 : UInt8).toNat : Int) = 114 := rfl
    unfold rdF
    rw [bt_mid, if_pos (by simp only [ByteArray.size_append, size1]; omega), e, if_neg (by omega), if_neg (by omega), if_pos rfl, size1]
theorem good_not {T : ByteArray} {q : List Int} (h : Good T q) : Good (⟨#[33]⟩ ++ T) (q ++ [-1]) := by
  refine ⟨by rw [ByteArray.size_append, size1]; omega, fun A B n hB hn => ?_⟩
  have ea : A ++ (⟨#[33]⟩ ++ T) ++ B = A ++ ⟨#[33]⟩ ++ (T ++ B) := by simp only [ByteArray.append_assoc]
  have eb : A ++ ⟨#[33]⟩ ++ (T ++ B) = (A ++ ⟨#[33]⟩) ++ T ++ B := by simp only [ByteArray.append_assoc]
  have hs : (A ++ ⟨#[33]⟩).size = A.size + 1 := by rw [ByteArray.size_append, size1]
  have h1 := h.1
  rw [ea] at hn ⊢
  simp only [ByteArray.size_append, size1] at hn
  obtain ⟨n, rfl⟩ : ∃ m, n = m + 1 := ⟨n - 1, by omega⟩
  have hr := h.2 (A ++ ⟨#[33]⟩) B n hB (by simp only [ByteArray.size_append, size1]; omega)
  rw [← eb, hs] at hr
  have e : ((33 : UInt8).toNat : Int) = 33 := rfl
  unfold rdF
  rw [bt_mid, if_pos (by simp only [ByteArray.size_append, size1]; omega), e, if_pos rfl, hr]
  simp only [Option.bind_some, ByteArray.size_append, size1]
  congr 2; omega
theorem good_two {T1 T2 : ByteArray} {q1 q2 : List Int} (h1 : Good T1 q1) (h2 : Good T2 q2) (op : Int) (ho : op = -2 ∨ op = -3) :
    Good (⟨#[40]⟩ ++ T1 ++ ⟨#[if op = -3 then 124 else 38]⟩ ++ T2 ++ ⟨#[41]⟩) (q1 ++ q2 ++ [op]) := by
  obtain ⟨o, ho2⟩ : ∃ o : UInt8, o = if op = -3 then 124 else 38 := ⟨_, rfl⟩
  rw [← ho2]
  have hon : (o.toNat : Int) = if op = -3 then 124 else 38 := by
    rw [ho2]; rcases ho with rfl | rfl
    · rw [if_neg (by omega), if_neg (by omega)]; rfl
    · rw [if_pos rfl, if_pos rfl]; rfl
  have g1 := h1.1
  have g2 := h2.1
  refine ⟨by simp only [ByteArray.size_append, size1]; omega, fun A B n hB hn => ?_⟩
  have ea : A ++ (⟨#[40]⟩ ++ T1 ++ ⟨#[o]⟩ ++ T2 ++ ⟨#[41]⟩) ++ B = A ++ ⟨#[40]⟩ ++ (T1 ++ ⟨#[o]⟩ ++ T2 ++ ⟨#[41]⟩ ++ B) := by simp only [ByteArray.append_assoc]
  have eb : A ++ ⟨#[40]⟩ ++ (T1 ++ ⟨#[o]⟩ ++ T2 ++ ⟨#[41]⟩ ++ B) = (A ++ ⟨#[40]⟩) ++ T1 ++ (⟨#[o]⟩ ++ (T2 ++ ⟨#[41]⟩ ++ B)) := by simp only [ByteArray.append_assoc]
  have ec : A ++ ⟨#[40]⟩ ++ (T1 ++ ⟨#[o]⟩ ++ T2 ++ ⟨#[41]⟩ ++ B) = (A ++ ⟨#[40]⟩ ++ T1) ++ ⟨#[o]⟩ ++ (T2 ++ ⟨#[41]⟩ ++ B) := by simp only [ByteArray.append_assoc]
  have ed : A ++ ⟨#[40]⟩ ++ (T1 ++ ⟨#[o]⟩ ++ T2 ++ ⟨#[41]⟩ ++ B) = (A ++ ⟨#[40]⟩ ++ T1 ++ ⟨#[o]⟩) ++ T2 ++ (⟨#[41]⟩ ++ B) := by simp only [ByteArray.append_assoc]
  have ee : A ++ ⟨#[40]⟩ ++ (T1 ++ ⟨#[o]⟩ ++ T2 ++ ⟨#[41]⟩ ++ B) = (A ++ ⟨#[40]⟩ ++ T1 ++ ⟨#[o]⟩ ++ T2) ++ ⟨#[41]⟩ ++ B := by simp only [ByteArray.append_assoc]
  have b1 := bt_mid (A ++ ⟨#[40]⟩ ++ T1) o (T2 ++ ⟨#[41]⟩ ++ B)
  have b2 := bt_mid (A ++ ⟨#[40]⟩ ++ T1 ++ ⟨#[o]⟩ ++ T2) 41 B
  rw [← ec] at b1
  rw [← ee] at b2
  rw [ea] at hn ⊢
  obtain ⟨S, hS⟩ : ∃ S, S = A ++ ⟨#[40]⟩ ++ (T1 ++ ⟨#[o]⟩ ++ T2 ++ ⟨#[41]⟩ ++ B) := ⟨_, rfl⟩
  have hsz : S.size = A.size + 1 + T1.size + 1 + T2.size + 1 + B.size := by rw [hS]; simp only [ByteArray.size_append, size1]; omega
  have b0 := bt_mid A 40 (T1 ++ ⟨#[o]⟩ ++ T2 ++ ⟨#[41]⟩ ++ B)
  rw [← hS] at hn b0 b1 b2 ⊢
  obtain ⟨n, rfl⟩ : ∃ m, n = m + 1 := ⟨n - 1, by omega⟩
  have r1 := h1.2 (A ++ ⟨#[40]⟩) (⟨#[o]⟩ ++ (T2 ++ ⟨#[41]⟩ ++ B)) n (noPlus_cons _ _ (by rw [hon]; split <;> omega)) (by rw [← eb, ← hS]; simp only [ByteArray.size_append, size1]; omega)
  rw [← eb, ← hS] at r1
  have r2 := h2.2 (A ++ ⟨#[40]⟩ ++ T1 ++ ⟨#[o]⟩) (⟨#[41]⟩ ++ B) n (noPlus_cons _ _ (by decide)) (by rw [← ed, ← hS]; simp only [ByteArray.size_append, size1]; omega)
  rw [← ed, ← hS] at r2
  simp only [ByteArray.size_append, size1] at r1 r2 b1 b2
  have e40 : ((40 : UInt8).toNat : Int) = 40 := rfl
  have e41 : ((41 : UInt8).toNat : Int) = 41 := rfl
  rw [e40] at b0
  rw [e41] at b2
  rw [hon] at b1
  unfold rdF
  rw [b0, if_pos (by omega), if_neg (by omega), if_pos rfl, r1]
  simp only [Option.bind_some]
  rw [b1, if_pos (by refine ⟨by omega, ?_⟩; rcases ho with rfl | rfl; left; rw [if_neg (by omega)]; right; rw [if_pos rfl]), r2]
  simp only [Option.bind_some]
  rw [if_pos ⟨by omega, b2⟩]
  simp only [ByteArray.size_append, size1]
  congr 2
  · congr 2
    rcases ho with rfl | rfl <;> simp
  · omega
/-- A pile of texts, each read back as its part of the signs. -/
def GoodPile (pile : List ByteArray) (q : List Int) : Prop := ∃ L : List (ByteArray × List Int), pile = L.map Prod.fst ∧ q = (L.map Prod.snd).flatten ∧ ∀ x ∈ L, Good x.1 x.2
theorem good_step {pile : List ByteArray} {q : List Int} {s : Int} {r : List Int} {m : Int} (h : GoodPile pile q) (hp : patF (pile.length : Int) (s :: r) = some m) : GoodPile (stepX pile s) (q ++ [s]) := by
  obtain ⟨L, rfl, rfl, hL⟩ := h
  obtain ⟨_, h1, h2, h3, _, h4⟩ := stepX_length hp
  rw [List.length_map] at h1 h2 h3
  by_cases c1 : s = -1
  · have hl := h1 c1
    obtain ⟨K, x, rfl⟩ : ∃ K x, L = K ++ [x] := ⟨L.dropLast, L.getLast (by intro e; rw [e] at hl; simp at hl), (List.dropLast_concat_getLast _).symm⟩
    refine ⟨K ++ [(⟨#[33]⟩ ++ x.1, x.2 ++ [-1])], ?_, ?_, ?_⟩
    · rw [c1, List.map_append, List.map_append]; exact stepX_not _ _
    · rw [c1]; simp
    · intro y hy
      rcases List.mem_append.1 hy with hy | hy
      · exact hL y (by simp [hy])
      · rw [List.mem_singleton.1 hy]; exact good_not (hL x (by simp))
  · by_cases c2 : s = -2 ∨ s = -3
    · have hl : 2 ≤ L.length := by rcases c2 with c | c; exact h2 c; exact h3 c
      obtain ⟨K0, y, rfl⟩ : ∃ K x, L = K ++ [x] := ⟨L.dropLast, L.getLast (by intro e; rw [e] at hl; simp at hl), (List.dropLast_concat_getLast _).symm⟩
      obtain ⟨K, x, rfl⟩ : ∃ K x, K0 = K ++ [x] := ⟨K0.dropLast, K0.getLast (by intro e; rw [e] at hl; simp at hl), (List.dropLast_concat_getLast _).symm⟩
      refine ⟨K ++ [(⟨#[40]⟩ ++ x.1 ++ ⟨#[if s = -3 then 124 else 38]⟩ ++ y.1 ++ ⟨#[41]⟩, x.2 ++ y.2 ++ [s])], ?_, ?_, ?_⟩
      · rw [List.map_append, List.map_append, List.map_append]; exact stepX_two _ _ _ _ c2
      · simp
      · intro z hz
        rcases List.mem_append.1 hz with hz | hz
        · exact hL z (by simp [hz])
        · rw [List.mem_singleton.1 hz]; exact good_two (hL x (by simp)) (hL y (by simp)) s c2
    · have hl := h4 c1 (fun e => c2 (.inl e)) (fun e => c2 (.inr e))
      have hc := leaf_cases hl
      refine ⟨L ++ [(signText s, [s])], ?_, ?_, ?_⟩
      · rw [List.map_append]; exact stepX_leaf _ (by omega)
      · simp
      · intro z hz
        rcases List.mem_append.1 hz with hz | hz
        · exact hL z hz
        · rw [List.mem_singleton.1 hz]; exact good_leaf hl
theorem good_all : ∀ (r : List Int) (pile : List ByteArray) (q : List Int) (m : Int), GoodPile pile q → patF (pile.length : Int) r = some m → GoodPile (pileT pile r) (q ++ r) ∧ ((pileT pile r).length : Int) = m
  | [], pile, q, m, h, hp => ⟨by rw [List.append_nil]; exact h, by simpa [patF, pileT] using hp⟩
  | s :: r, pile, q, m, h, hp => by
    have h1 := good_step h hp
    have h2 := good_all r (stepX pile s) (q ++ [s]) m h1 (stepX_length hp).1
    rw [List.append_assoc] at h2
    exact h2
/-- A pattern is read back from its text. -/
theorem parse_text (p : List Int) : parsePat (patText p) = if isPattern p = true then (p, true) else ([], false) := by
  by_cases hp : isPattern p = true
  · rw [if_pos hp]
    have hpat : patF 0 p = some 1 := by simp [isPattern] at hp; exact hp.1
    have h := good_all p [] [] 1 ⟨[], rfl, rfl, fun x hx => by cases hx⟩ (by simpa using hpat)
    obtain ⟨⟨L, e1, e2, hL⟩, hlen⟩ := h
    rw [e1, List.length_map] at hlen
    obtain ⟨x, rfl⟩ : ∃ x, L = [x] := List.length_eq_one_iff.1 (by omega)
    have e3 : patText p = x.1 := by unfold patText; rw [if_pos hp, e1]; rfl
    have e4 : p = x.2 := by simpa using e2
    have hg := (hL x (by simp)).2 ByteArray.empty ByteArray.empty (x.1.size + 1) (.inl rfl) (by rw [ByteArray.empty_append, ByteArray.append_empty]; have : ByteArray.empty.size = 0 := rfl; omega)
    rw [ByteArray.empty_append, ByteArray.append_empty] at hg
    have z : ByteArray.empty.size = 0 := rfl
    rw [z] at hg
    unfold parsePat
    rw [e3, hg, ← e4]
    simp only
    rw [if_pos e3]
  · rw [if_neg hp]
    have : patText p = ⟨#[]⟩ := by unfold patText; rw [if_neg hp]
    rw [this]; rfl
theorem parsePat_text {s : ByteArray} (h : (parsePat s).2 = true) : patText (parsePat s).1 = s := by
  unfold parsePat at h ⊢
  split at h
  · cases h
  · split at h
    · rename_i ht; rw [if_pos ht]; exact ht
    · cases h
/-- The bytes of a hand's cards. -/
def handB (l : List Int) : List UInt8 := (l.map fun c => (cardTxt c).data.toList).flatten
theorem textF_bytes : ∀ (l : List Int) (s : ByteArray), (textF s l).data.toList = s.data.toList ++ handB l
  | [], s => by simp [textF, handB]
  | c :: r, s => by
    show (textF (s ++ cardTxt c) r).data.toList = _
    rw [textF_bytes r, ByteArray.data_append, Array.toList_append]
    simp [handB]
theorem card_two : ∀ n : Nat, n < 52 → ∃ a b : UInt8, (cardTxt (n : Int)).data.toList = [a, b] ∧ a ≠ 63 ∧ a ≠ 45 ∧ parseC ⟨#[a, b]⟩ = (n : Int) := by
  have key : ∀ n : Nat, n < 52 → (cardTxt (n : Int)).data.toList = [(cardTxt (n : Int)).data.toList.getD 0 0, (cardTxt (n : Int)).data.toList.getD 1 0] ∧ (cardTxt (n : Int)).data.toList.getD 0 0 ≠ 63 ∧ (cardTxt (n : Int)).data.toList.getD 0 0 ≠ 45 ∧ parseC ⟨#[(cardTxt (n : Int)).data.toList.getD 0 0, (cardTxt (n : Int)).data.toList.getD 1 0]⟩ = (n : Int) := by decide +kernel
  exact fun n hn => ⟨_, _, key n hn⟩
theorem card_bytes2 {c : Int} (h : isCard c = true) : ∃ a b : UInt8, (cardTxt c).data.toList = [a, b] ∧ a ≠ 63 ∧ a ≠ 45 ∧ parseC ⟨#[a, b]⟩ = c := by
  have hc := (isCard_iff c).1 h
  obtain ⟨n, rfl⟩ : ∃ n : Nat, c = (n : Int) := ⟨c.toNat, by omega⟩
  exact card_two n (by omega)
theorem nocard_bytes {c : Int} (h : ¬ isCard c = true) : (cardTxt c).data.toList = [63] := by unfold cardTxt; rw [if_neg h]
theorem handB_cons (c : Int) (r : List Int) : handB (c :: r) = (cardTxt c).data.toList ++ handB r := by simp [handB]
/-- Cards are told by their bytes. -/
theorem handB_inj : ∀ (l h : List Int), (∀ x ∈ l, isCard x = true) → handB l = handB h → l = h
  | [], [], _, _ => rfl
  | [], d :: r, _, e => by
    rw [handB_cons] at e
    by_cases hd : isCard d = true
    · obtain ⟨a, b, h1, _⟩ := card_bytes2 hd
      rw [h1] at e; cases e
    · rw [nocard_bytes hd] at e; cases e
  | c :: l, [], hl, e => by
    rw [handB_cons] at e
    obtain ⟨a, b, h1, _⟩ := card_bytes2 (hl c (by simp))
    rw [h1] at e; cases e
  | c :: l, d :: r, hl, e => by
    rw [handB_cons, handB_cons] at e
    obtain ⟨a, b, h1, h2, _, h3⟩ := card_bytes2 (hl c (by simp))
    rw [h1] at e
    by_cases hd : isCard d = true
    · obtain ⟨a', b', g1, _, _, g3⟩ := card_bytes2 hd
      rw [g1] at e
      simp only [List.cons_append, List.nil_append, List.cons.injEq] at e
      obtain ⟨rfl, rfl, e⟩ := e
      rw [h3] at g3
      rw [g3, handB_inj l r (fun x hx => hl x (by simp [hx])) e]
    · rw [nocard_bytes hd] at e
      simp only [List.cons_append, List.nil_append, List.cons.injEq] at e
      exact absurd e.1 h2
theorem handText_bytes (l : List Int) : (handText l).data.toList = if l = [] then [45] else handB l := by
  unfold handText
  by_cases h : l = []
  · rw [if_pos h, if_pos h]
  · rw [if_neg h, if_neg h, textF_bytes]; rfl
theorem handText_inj {l h : List Int} (hl : ∀ x ∈ l, isCard x = true) (e : handText l = handText h) : l = h := by
  have e2 : (handText l).data.toList = (handText h).data.toList := by rw [e]
  rw [handText_bytes, handText_bytes] at e2
  by_cases h1 : l = []
  · by_cases h2 : h = []
    · rw [h1, h2]
    · exfalso
      rw [if_pos h1, if_neg h2] at e2
      obtain ⟨d, r, rfl⟩ := List.exists_cons_of_ne_nil h2
      rw [handB_cons] at e2
      by_cases hd : isCard d = true
      · obtain ⟨a, b, g1, _, g2, _⟩ := card_bytes2 hd
        rw [g1] at e2
        simp only [List.cons_append, List.cons.injEq] at e2
        exact g2 e2.1.symm
      · rw [nocard_bytes hd] at e2
        simp at e2
  · rw [if_neg h1] at e2
    by_cases h2 : h = []
    · exfalso
      rw [if_pos h2] at e2
      obtain ⟨c, r, rfl⟩ := List.exists_cons_of_ne_nil h1
      rw [handB_cons] at e2
      obtain ⟨a, b, g1, _⟩ := card_bytes2 (hl c (by simp))
      rw [g1] at e2; cases e2
    · rw [if_neg h2] at e2
      exact handB_inj l h hl e2
/-- The cards of a hand's text. -/
theorem cards_text : ∀ (l : List Int), (∀ x ∈ l, isCard x = true) → cardsOf (textF ⟨#[]⟩ l) l.length = l := by
  have key : ∀ (n : Nat) (l : List Int), l.length = n → (∀ x ∈ l, isCard x = true) → cardsOf (textF ⟨#[]⟩ l) l.length = l := by
    intro n
    induction n with
    | zero => intro l h _; obtain rfl := List.length_eq_zero_iff.1 h; rfl
    | succ n ih =>
      intro l h hl
      obtain ⟨q, c, rfl⟩ : ∃ q c, l = q ++ [c] := ⟨l.dropLast, l.getLast (by intro e; rw [e] at h; cases h), (List.dropLast_concat_getLast _).symm⟩
      have hq : q.length = n := by simpa using h
      have hqc : ∀ x ∈ q, isCard x = true := fun x hx => hl x (by simp [hx])
      have hc := hl c (by simp)
      have hs : (textF ⟨#[]⟩ q).size = 2 * q.length := by rw [textF_size q ⟨#[]⟩ hqc]; have : (⟨#[]⟩ : ByteArray).size = 0 := rfl; omega
      have hcs : (cardTxt c).size = 2 := by unfold cardTxt; rw [if_pos hc]; exact cardText_size hc
      rw [textF_append, List.length_append, List.length_singleton, cardsOf_succ]
      congr 1
      · conv => rhs; rw [← ih q hq hqc]
        unfold cardsOf
        apply List.map_congr_left
        intro j hj
        rw [List.mem_range] at hj
        congr 1
        rw [ByteArray.extract_append]
        have e1 : (2 * j + 2) - (textF ⟨#[]⟩ q).size = 0 := by omega
        rw [e1]
        have e2 : (cardTxt c).extract (2 * j - (textF ⟨#[]⟩ q).size) 0 = ByteArray.empty := by
          apply ByteArray.ext
          simp
        rw [e2, ByteArray.append_empty]
      · congr 1
        rw [ByteArray.extract_append_eq_right (by rw [hs]) (by rw [hs, hcs])]
        obtain ⟨a, b, g1, _, _, g3⟩ := card_bytes2 hc
        have : cardTxt c = ⟨#[a, b]⟩ := ByteArray.ext (Array.ext' g1)
        rw [this]; exact g3
  exact fun l => key l.length l rfl
theorem parse_hand (h : List Int) : parseHand (handText h) = if isHand h = true then (h, true) else ([], false) := by
  by_cases hh : isHand h = true
  · rw [if_pos hh]
    have hc := ((isHand_iff h).1 hh).1
    by_cases h0 : h = []
    · rw [h0]; exact parse_dash
    · have e : handText h = textF ⟨#[]⟩ h := by unfold handText; rw [if_neg h0]
      have hs : (handText h).size / 2 = h.length := by rw [hand_size hh h0]; omega
      unfold parseHand
      rw [hs, e, cards_text h hc, if_pos hh, ← e, if_pos rfl]
  · rw [if_neg hh]
    unfold parseHand
    split
    · rename_i h1
      split
      · rename_i h2
        exact absurd (handText_inj ((isHand_iff _).1 h1).1 h2 ▸ h1) hh
      · rfl
    · rfl
theorem parseHand_text {s : ByteArray} (h : (parseHand s).2 = true) : handText (parseHand s).1 = s := by
  unfold parseHand at h ⊢
  split at h
  · rename_i h1
    rw [if_pos h1]
    split at h
    · rename_i h2; rw [if_pos h2]; exact h2
    · cases h
  · cases h
theorem handText_size (l : List Int) : (handText l).size ≤ 2 * l.length + 1 := by
  have key : ∀ (l : List Int), (handB l).length ≤ 2 * l.length := by
    intro l
    induction l with
    | nil => simp [handB]
    | cons c r ih =>
      rw [handB_cons, List.length_append, List.length_cons]
      by_cases hc : isCard c = true
      · obtain ⟨a, b, h1, _⟩ := card_bytes2 hc
        rw [h1]; simp; omega
      · rw [nocard_bytes hc]; simp; omega
  have e : (handText l).size = (handText l).data.toList.length := by simp
  rw [e, handText_bytes]
  split
  · simp
  · have := key l; omega
end Go.Proofs.Ytecjbogconeilaa.Lib
