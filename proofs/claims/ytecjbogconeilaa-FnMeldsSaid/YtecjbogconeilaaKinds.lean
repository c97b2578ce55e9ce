/- How many cards have each rank, and what follows from it: plain functions, and the one table over all counts of five cards. No condition. -/
import Derived.Test.YtecjbogconeilaaHands
namespace Go.Proofs.Ytecjbogconeilaa.Lib
open Go.RowKit Go.Proofs.YtecjbogconeilaaW.PrintWords Go.Proofs.YtecjbogconeilaaW.PrintLast Go.Proofs.YtecjbogconeilaaW.PrintMore
set_option linter.unusedVariables false
set_option linter.unusedSimpArgs false

def cntF : List Int → List Int → List Int
  | n, [] => n
  | n, c :: r => cntF (n.set (rankOf c).toNat (n.getD (rankOf c).toNat 0 + 1)) r
def cnt (l : List Int) : List Int := cntF (List.replicate 13 0) l
def strT (n : List Int) (h k : Nat) : Bool := decide (n.getD (if h < k then 12 else h - k) 0 = 1)
def strAt (n : List Int) (h : Nat) : Bool := ((((true && strT n h 0) && strT n h 1) && strT n h 2) && strT n h 3) && strT n h 4
/-- The highest rank of a straight: m counts the ranks from 3 on that are left. -/
def strF (n : List Int) : Nat → Int
  | 0 => -1
  | m + 1 => if strAt n (m + 3) = true then ((m + 3 : Nat) : Int) else strF n m
def hasF (n : List Int) (k : Int) : Int := ((n.filter fun x => decide (x = k)).length : Int)
def rkDown (n : List Int) (c : Int) : Nat → List Int
  | 0 => []
  | m + 1 => if n.getD m 0 = c then (m : Int) :: rkDown n c m else rkDown n c m
def rkOf (n : List Int) : List Int := rkDown n 4 13 ++ (rkDown n 3 13 ++ (rkDown n 2 13 ++ rkDown n 1 13))
def mnOf (n : List Int) : List Int := (rkDown n 4 13).map (fun _ => 4) ++ ((rkDown n 3 13).map (fun _ => 3) ++ ((rkDown n 2 13).map (fun _ => 2) ++ (rkDown n 1 13).map (fun _ => 1)))
def strI (rk : List Int) : Int := if rk.length = 5 then (if rd rk 0 - rd rk 4 = 4 then rd rk 0 else if rk = [12, 3, 2, 1, 0] then 3 else -1) else -1
def flushOf (l : List Int) : Bool := l.all fun c => decide (suitOf c = suitOf (rd l 0))
def kindS (s h4 h3 h2 : Int) (fl : Bool) : Int :=
  if (decide (s ≥ 0) && fl) = true then 8 else if h4 = 1 then 7 else if (decide (h3 = 1) && decide (h2 = 1)) = true then 6 else if fl = true then 5 else if s ≥ 0 then 4 else if h3 = 1 then 3 else if h2 = 2 then 2 else if h2 = 1 then 1 else 0
def kindI (s : Int) (mn : List Int) (fl : Bool) : Int :=
  if (decide (s ≥ 0) && fl) = true then 8 else if rd mn 0 = 4 then 7 else if (decide (rd mn 0 = 3) && decide (rd mn 1 = 2)) = true then 6 else if fl = true then 5 else if s ≥ 0 then 4 else if rd mn 0 = 3 then 3 else if (decide (rd mn 0 = 2) && decide (rd mn 1 = 2)) = true then 2 else if rd mn 0 = 2 then 1 else 0
def kindN (n : List Int) (fl : Bool) : Int := kindS (strF n 10) (hasF n 4) (hasF n 3) (hasF n 2) fl
def kindOf (l : List Int) : Int := if (isHand l && decide (l.length = 5)) = true then kindN (cnt l) (flushOf l) else -1
def handKey (l : List Int) : List Int := if kindOf l < 0 then [] else if strF (cnt l) 10 ≥ 0 then [kindOf l, strF (cnt l) 10] else kindOf l :: rkOf (cnt l)

def okN (n : List Int) : Prop := strI (rkOf n) = strF n 10 ∧ (∀ fl, kindI (strF n 10) (mnOf n) fl = kindN n fl) ∧ 2 ≤ (mnOf n).length ∧ (∀ fl, ((kindN n fl = 4 ∨ kindN n fl = 8) ↔ strF n 10 ≥ 0)) ∧ (∀ fl, 0 ≤ kindN n fl)
def allC : Nat → Nat → (List Int → Bool) → Bool
  | 0, s, P => s != 0 || P []
  | k + 1, 0, P => allC k 0 fun r => P (0 :: r)
  | k + 1, s + 1, P => (allC k (s + 1) fun r => P (0 :: r)) && allC k s fun r => P (1 :: r)
theorem sum_nonneg (r : List Int) (h : ∀ y ∈ r, 0 ≤ y) : 0 ≤ r.sum := by
  induction r with
  | nil => simp
  | cons y r ih => simp only [List.sum_cons]; have := h y (by simp); have := ih (fun z hz => h z (by simp [hz])); omega
theorem allC_all : ∀ (k s : Nat) (P : List Int → Bool), allC k s P = true → ∀ n : List Int, n.length = k → (∀ x ∈ n, x = 0 ∨ x = 1) → n.sum = (s : Int) → P n = true
  | 0, s, P, h, n, hn, hb, hs => by
    obtain rfl := List.length_eq_zero_iff.1 hn
    have : s = 0 := by simp at hs; omega
    subst this
    simpa [allC] using h
  | k + 1, s, P, h, n, hn, hb, hs => by
    cases n with
    | nil => simp at hn
    | cons x r =>
      have hx := hb x (by simp)
      have hr : ∀ y ∈ r, y = 0 ∨ y = 1 := fun y hy => hb y (by simp [hy])
      have hp : 0 ≤ r.sum := sum_nonneg r (fun y hy => by have := hr y hy; omega)
      have hl : r.length = k := by simpa using hn
      simp only [List.sum_cons] at hs
      cases s with
      | zero =>
        have e : x = 0 := by omega
        subst e
        exact allC_all k 0 _ h r hl hr (by omega)
      | succ s =>
        unfold allC at h
        rw [Bool.and_eq_true] at h
        rcases hx with rfl | rfl
        · exact allC_all k (s + 1) _ h.1 r hl hr (by omega)
        · exact allC_all k s _ h.2 r hl hr (by omega)
set_option maxRecDepth 100000 in
theorem table : allC 13 5 (fun n => decide (strI (rkDown n 1 13) = strF n 10)) = true := by kernel_rfl

theorem cntF_length : ∀ (l n : List Int), (cntF n l).length = n.length
  | [], n => rfl
  | c :: r, n => by unfold cntF; rw [cntF_length r, List.length_set]
theorem cnt_length (l : List Int) : (cnt l).length = 13 := by unfold cnt; rw [cntF_length]; rfl
theorem cntF_getD (i : Nat) : ∀ (l n : List Int), (∀ c ∈ l, isCard c = true) → n.length = 13 → (cntF n l).getD i 0 = n.getD i 0 + ((l.filter fun c => decide (rankOf c = (i : Int))).length : Int)
  | [], n, _, _ => by simp [cntF]
  | c :: r, n, h, hn => by
    have hc := (isCard_iff c).1 (h c (by simp))
    have hr : 0 ≤ rankOf c ∧ rankOf c ≤ 12 := by unfold rankOf; rw [if_pos (h c (by simp))]; omega
    unfold cntF
    rw [cntF_getD i r _ (fun x hx => h x (by simp [hx])) (by rw [List.length_set]; exact hn), List.filter_cons]
    by_cases hi : rankOf c = (i : Int)
    · rw [if_pos (by simpa using hi)]
      have e : (rankOf c).toNat = i := by omega
      rw [e]
      have hi2 : i < n.length := by omega
      simp [List.getD_eq_getElem?_getD, List.getElem?_set, hi2]
      omega
    · rw [if_neg (by simpa using hi)]
      have e : (rankOf c).toNat ≠ i := by omega
      simp [List.getD_eq_getElem?_getD, List.getElem?_set, e]
theorem nodup_sub : ∀ (l m : List Int), l.Nodup → (∀ x ∈ l, x ∈ m) → l.length ≤ m.length
  | [], m, _, _ => by simp
  | x :: r, m, h, hs => by
    rw [List.nodup_cons] at h
    have hx := hs x (by simp)
    have h2 := nodup_sub r (m.erase x) h.2 (fun y hy => (List.mem_erase_of_ne (fun e => h.1 (by rw [← e]; exact hy))).2 (hs y (by simp [hy])))
    rw [List.length_erase_of_mem hx] at h2
    have : 0 < m.length := List.length_pos_of_mem hx
    simp; omega
theorem cnt_bound {l : List Int} (h : isHand l = true) : ∀ x ∈ cnt l, 0 ≤ x ∧ x ≤ 4 := by
  intro x hx
  obtain ⟨i, hi, rfl⟩ := List.getElem_of_mem hx
  have hh := (isHand_iff l).1 h
  have e := cntF_getD i l (List.replicate 13 0) hh.1 (by simp)
  have e2 : (cnt l)[i] = (cnt l).getD i 0 := by simp [List.getD_eq_getElem?_getD, hi]
  rw [e2]
  unfold cnt
  have e3 : (List.replicate 13 (0 : Int)).getD i 0 = 0 := by
    rw [List.getD_eq_getElem?_getD, List.getElem?_replicate]; split <;> rfl
  rw [e, e3]
  have h3 := nodup_sub (l.filter fun c => decide (rankOf c = (i : Int))) [(i : Int), (i : Int) + 13, (i : Int) + 26, (i : Int) + 39] (List.Nodup.sublist List.filter_sublist hh.2) (by
    intro y hy
    rw [List.mem_filter] at hy
    have h1 := (isCard_iff y).1 (hh.1 y hy.1)
    have h2 : rankOf y = (i : Int) := by simpa using hy.2
    unfold rankOf at h2
    rw [if_pos (hh.1 y hy.1)] at h2
    simp only [List.mem_cons, List.not_mem_nil, or_false]
    omega)
  simp only [List.length_cons, List.length_nil] at h3
  omega
theorem sum_set : ∀ (n : List Int) (i : Nat), i < n.length → (n.set i (n.getD i 0 + 1)).sum = n.sum + 1
  | [], i, h => by simp at h
  | x :: r, 0, h => by simp; omega
  | x :: r, i + 1, h => by
    have := sum_set r i (by simpa using h)
    simp only [List.set_cons_succ, List.sum_cons]
    rw [show (x :: r).getD (i + 1) 0 = r.getD i 0 by simp]
    omega
theorem cntF_sum : ∀ (l n : List Int), (∀ c ∈ l, isCard c = true) → n.length = 13 → (cntF n l).sum = n.sum + (l.length : Int)
  | [], n, _, _ => by simp [cntF]
  | c :: r, n, h, hn => by
    have hc := (isCard_iff c).1 (h c (by simp))
    have hr : 0 ≤ rankOf c ∧ rankOf c ≤ 12 := by unfold rankOf; rw [if_pos (h c (by simp))]; omega
    unfold cntF
    rw [cntF_sum r _ (fun x hx => h x (by simp [hx])) (by rw [List.length_set]; exact hn), sum_set n _ (by omega)]
    simp; omega
theorem rkDown_range (n : List Int) (c : Int) : ∀ m, ∀ x ∈ rkDown n c m, 0 ≤ x ∧ x < m
  | 0, x, h => by simp [rkDown] at h
  | m + 1, x, h => by
    unfold rkDown at h
    split at h
    · rcases List.mem_cons.1 h with rfl | h
      · omega
      · have := rkDown_range n c m x h; omega
    · have := rkDown_range n c m x h; omega
theorem rkDown_length (n : List Int) (c : Int) : ∀ m, (rkDown n c m).length ≤ m
  | 0 => by simp [rkDown]
  | m + 1 => by
    have := rkDown_length n c m
    unfold rkDown
    split
    · simp; omega
    · omega
theorem rkOf_range (n : List Int) : ∀ x ∈ rkOf n, 0 ≤ x ∧ x < 13 := by
  intro x h
  unfold rkOf at h
  simp only [List.mem_append] at h
  rcases h with h | h | h | h <;> exact rkDown_range n _ 13 x h
theorem rkOf_length (n : List Int) : (rkOf n).length ≤ 52 := by
  have h1 := rkDown_length n 4 13
  have h2 := rkDown_length n 3 13
  have h3 := rkDown_length n 2 13
  have h4 := rkDown_length n 1 13
  simp [rkOf]; omega
theorem mnOf_length (n : List Int) : (mnOf n).length ≤ 52 := by
  have h1 := rkDown_length n 4 13
  have h2 := rkDown_length n 3 13
  have h3 := rkDown_length n 2 13
  have h4 := rkDown_length n 1 13
  simp [mnOf]; omega
theorem rkDown_mem (n : List Int) (c : Int) : ∀ m, ∀ i : Nat, i < m → n.getD i 0 = c → (i : Int) ∈ rkDown n c m
  | 0, i, h, _ => by omega
  | m + 1, i, h, h2 => by
    unfold rkDown
    by_cases e : i = m
    · subst e; rw [if_pos h2]; simp
    · have := rkDown_mem n c m i (by omega) h2
      split
      · simp [this]
      · exact this
theorem rkDown_count (n : List Int) (c : Int) : ∀ m, m ≤ n.length → (rkDown n c m).length = ((n.take m).filter fun x => decide (x = c)).length
  | 0, h => by simp [rkDown]
  | m + 1, h => by
    have ih := rkDown_count n c m (by omega)
    unfold rkDown
    rw [take_at n m (by omega), List.filter_append, List.length_append, ← ih]
    have e : n.getD m 0 = n[m] := by simp [List.getD_eq_getElem?_getD, show m < n.length by omega]
    rw [e]
    by_cases hc : n[m] = c
    · rw [if_pos hc]; simp [hc]
    · rw [if_neg hc]; simp [hc]
theorem parts : ∀ (n : List Int), (∀ x ∈ n, 0 ≤ x ∧ x ≤ 4) → n.sum = 4 * hasF n 4 + 3 * hasF n 3 + 2 * hasF n 2 + hasF n 1
  | [], _ => by simp [hasF]
  | x :: r, h => by
    have ih := parts r (fun y hy => h y (by simp [hy]))
    have hx := h x (by simp)
    unfold hasF at ih ⊢
    simp only [List.sum_cons, List.filter_cons]
    by_cases h0 : x = 0
    · subst h0; simp; omega
    by_cases h1 : x = 1
    · subst h1; simp; omega
    by_cases h2 : x = 2
    · subst h2; simp; omega
    by_cases h3 : x = 3
    · subst h3; simp; omega
    obtain rfl : x = 4 := by omega
    simp; omega
theorem strAt_ones {n : List Int} {m : Nat} (hm : m < 10) (h : strAt n (m + 3) = true) : 5 ≤ (rkDown n 1 13).length := by
  unfold strAt strT at h
  simp only [Bool.true_and, Bool.and_eq_true, decide_eq_true_eq] at h
  obtain ⟨⟨⟨⟨h0, h1⟩, h2⟩, h3⟩, h4⟩ := h
  rw [if_neg (by omega)] at h0 h1 h2 h3
  have g0 := rkDown_mem n 1 13 _ (by omega) h0
  have g1 := rkDown_mem n 1 13 _ (by omega) h1
  have g2 := rkDown_mem n 1 13 _ (by omega) h2
  have g3 := rkDown_mem n 1 13 _ (by omega) h3
  have g4 := rkDown_mem n 1 13 _ (by split <;> omega) h4
  have hsub : ∀ x ∈ [((m + 3 - 0 : Nat) : Int), ((m + 3 - 1 : Nat) : Int), ((m + 3 - 2 : Nat) : Int), ((m + 3 - 3 : Nat) : Int), ((if m + 3 < 4 then 12 else m + 3 - 4 : Nat) : Int)], x ∈ rkDown n 1 13 := by
    intro x hx
    simp only [List.mem_cons, List.not_mem_nil, or_false] at hx
    rcases hx with e | e | e | e | e
    · rw [e]; exact g0
    · rw [e]; exact g1
    · rw [e]; exact g2
    · rw [e]; exact g3
    · rw [e]; exact g4
  refine nodup_sub [((m + 3 - 0 : Nat) : Int), ((m + 3 - 1 : Nat) : Int), ((m + 3 - 2 : Nat) : Int), ((m + 3 - 3 : Nat) : Int), ((if m + 3 < 4 then 12 else m + 3 - 4 : Nat) : Int)] _ ?_ hsub
  · simp only [List.nodup_cons, List.mem_cons, List.not_mem_nil, or_false, not_false_eq_true, List.nodup_nil, and_true, not_or]
    refine ⟨⟨?_, ?_, ?_, ?_⟩, ⟨?_, ?_, ?_⟩, ⟨?_, ?_⟩, ?_⟩ <;> (try split) <;> omega
theorem strF_none {n : List Int} (h : (rkDown n 1 13).length < 5) : ∀ m, m ≤ 10 → strF n m = -1
  | 0, _ => rfl
  | m + 1, hm => by
    unfold strF
    rw [if_neg (fun e => by have := strAt_ones (n := n) (m := m) (by omega) e; omega)]
    exact strF_none h m (by omega)
theorem six (a b c d : Nat) (h : 4 * a + 3 * b + 2 * c + d = 5) (h5 : ¬ d = 5) : (a = 1 ∧ b = 0 ∧ c = 0 ∧ d = 1) ∨ (a = 0 ∧ b = 1 ∧ c = 1 ∧ d = 0) ∨ (a = 0 ∧ b = 1 ∧ c = 0 ∧ d = 2) ∨ (a = 0 ∧ b = 0 ∧ c = 2 ∧ d = 1) ∨ (a = 0 ∧ b = 0 ∧ c = 1 ∧ d = 3) := by
  have h1 : a = 0 ∨ a = 1 := by omega
  have h2 : b = 0 ∨ b = 1 := by omega
  have h3 : c = 0 ∨ c = 1 ∨ c = 2 := by omega
  rcases h1 with rfl | rfl <;> rcases h2 with rfl | rfl <;> rcases h3 with rfl | rfl | rfl <;> omega
theorem no_mem {n : List Int} {x k : Int} (hx : x ∈ n) (z : (n.filter fun x => decide (x = k)).length = 0) : x ≠ k := by
  intro e
  have : x ∈ n.filter fun x => decide (x = k) := List.mem_filter.2 ⟨hx, by simp [e]⟩
  rw [List.length_eq_zero_iff.1 z] at this
  simp at this
theorem ok_all {n : List Int} (hl : n.length = 13) (hb : ∀ x ∈ n, 0 ≤ x ∧ x ≤ 4) (hs : n.sum = 5) : okN n := by
  have hp := parts n hb
  rw [hs] at hp
  have c4 := rkDown_count n 4 13 (by omega)
  have c3 := rkDown_count n 3 13 (by omega)
  have c2 := rkDown_count n 2 13 (by omega)
  have c1 := rkDown_count n 1 13 (by omega)
  rw [List.take_of_length_le (by omega)] at c4 c3 c2 c1
  have em : mnOf n = List.replicate (rkDown n 4 13).length 4 ++ (List.replicate (rkDown n 3 13).length 3 ++ (List.replicate (rkDown n 2 13).length 2 ++ List.replicate (rkDown n 1 13).length 1)) := by
    unfold mnOf; simp only [List.map_const']
  have hk : ∀ fl, kindN n fl = kindS (strF n 10) ((rkDown n 4 13).length : Int) ((rkDown n 3 13).length : Int) ((rkDown n 2 13).length : Int) fl := by
    intro fl; unfold kindN hasF; rw [c4, c3, c2]
  have hq : 4 * (rkDown n 4 13).length + 3 * (rkDown n 3 13).length + 2 * (rkDown n 2 13).length + (rkDown n 1 13).length = 5 := by
    unfold hasF at hp; rw [c4, c3, c2, c1]; omega
  by_cases h5 : (rkDown n 1 13).length = 5
  · have z4 : (rkDown n 4 13).length = 0 := by omega
    have z3 : (rkDown n 3 13).length = 0 := by omega
    have z2 : (rkDown n 2 13).length = 0 := by omega
    have er : rkOf n = rkDown n 1 13 := by
      unfold rkOf
      rw [List.length_eq_zero_iff.1 z4, List.length_eq_zero_iff.1 z3, List.length_eq_zero_iff.1 z2]; rfl
    have ht : strI (rkDown n 1 13) = strF n 10 := by
      refine of_decide_eq_true (allC_all 13 5 _ table n hl (fun x hx => ?_) hs)
      have g4 := no_mem hx (k := 4) (by omega)
      have g3 := no_mem hx (k := 3) (by omega)
      have g2 := no_mem hx (k := 2) (by omega)
      have := hb x hx
      omega
    refine ⟨by rw [er]; exact ht, fun fl => ?_, by rw [em]; simp; omega, fun fl => ?_, fun fl => ?_⟩
    · rw [hk, em, z4, z3, z2, h5]
      cases fl <;> simp [kindI, kindS, rd, List.replicate]
    · rw [hk, z4, z3, z2]
      cases fl <;> by_cases hss : strF n 10 ≥ 0 <;> simp [kindS, hss]
    · rw [hk, z4, z3, z2]
      cases fl <;> by_cases hss : strF n 10 ≥ 0 <;> simp [kindS, hss]
  · have hz := strF_none (n := n) (by omega) 10 (by omega)
    have hlen : (rkOf n).length ≠ 5 := by unfold rkOf; simp only [List.length_append]; omega
    have cases6 := six _ _ _ _ hq h5
    refine ⟨by rw [hz]; unfold strI; rw [if_neg hlen], fun fl => ?_, by rw [em]; simp; omega, fun fl => ?_, fun fl => ?_⟩
    · rw [hk, em, hz]
      rcases cases6 with ⟨z4, z3, z2, z1⟩ | ⟨z4, z3, z2, z1⟩ | ⟨z4, z3, z2, z1⟩ | ⟨z4, z3, z2, z1⟩ | ⟨z4, z3, z2, z1⟩ <;> rw [z4, z3, z2, z1] <;> cases fl <;> simp [kindI, kindS, rd, List.replicate]
    · rw [hk, hz]
      rcases cases6 with ⟨z4, z3, z2, z1⟩ | ⟨z4, z3, z2, z1⟩ | ⟨z4, z3, z2, z1⟩ | ⟨z4, z3, z2, z1⟩ | ⟨z4, z3, z2, z1⟩ <;> rw [z4, z3, z2] <;> cases fl <;> simp [kindS]
    · rw [hk, hz]
      rcases cases6 with ⟨z4, z3, z2, z1⟩ | ⟨z4, z3, z2, z1⟩ | ⟨z4, z3, z2, z1⟩ | ⟨z4, z3, z2, z1⟩ | ⟨z4, z3, z2, z1⟩ <;> rw [z4, z3, z2] <;> cases fl <;> simp [kindS]
theorem cnt_ok {l : List Int} (h : isHand l = true) (h5 : l.length = 5) : okN (cnt l) := by
  refine ok_all (cnt_length l) (cnt_bound h) ?_
  unfold cnt
  rw [cntF_sum l _ ((isHand_iff l).1 h).1 (by simp), h5]
  rfl
theorem handKey_length (l : List Int) : (handKey l).length ≤ 53 := by
  have := rkOf_length (cnt l)
  unfold handKey
  split
  · simp
  · split <;> simp; omega
/-- The order of two rows of numbers: 1, 0 or -1, told by the first place where they differ and that both have. -/
def cmpL : List Int → List Int → Int
  | x :: r, y :: q => if x > y then 1 else if x < y then -1 else cmpL r q
  | _, _ => 0
def compareFive (a b : List Int) : Int := cmpL (handKey a) (handKey b)
end Go.Proofs.Ytecjbogconeilaa.Lib
