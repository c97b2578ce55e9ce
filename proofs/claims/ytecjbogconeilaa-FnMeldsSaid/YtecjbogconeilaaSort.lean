/- The insertion sort of both texts as a plain function, and what it does. No condition. -/
import Derived.Test.YtecjbogconeilaaHands
import Derived.Test.YtecjbogconeilaaCopy
namespace Go.Proofs.Ytecjbogconeilaa.Lib
open Go.RowKit Go.Proofs.YtecjbogconeilaaW.PrintWords Go.Proofs.YtecjbogconeilaaW.PrintLast Go.Proofs.YtecjbogconeilaaW.PrintMore
set_option linter.unusedVariables false
set_option linter.unusedSimpArgs false

def insAt {α : Type} (xs : List α) (k : Nat) (c : α) : List α := xs.take k ++ [c] ++ xs.drop k
theorem insAt_length {α : Type} (xs : List α) (k : Nat) (c : α) (h : k ≤ xs.length) : (insAt xs k c).length = xs.length + 1 := by simp [insAt]; omega
theorem insAt_perm {α : Type} (xs : List α) (k : Nat) (c : α) : (insAt xs k c).Perm (c :: xs) := by
  unfold insAt
  have h : (xs.take k ++ [c] ++ xs.drop k).Perm ([c] ++ xs.take k ++ xs.drop k) := List.Perm.append_right _ List.perm_append_comm
  refine h.trans ?_
  rw [List.append_assoc, List.take_append_drop]
  exact List.Perm.refl _
theorem shift_set {α : Type} (xs : List α) (z c : α) (k : Nat) (h : k ≤ xs.length) : (Arr.shifted (xs ++ [z]) k).set k c = insAt xs k c := by
  unfold Arr.shifted insAt
  have e1 : (xs ++ [z]).take (k + 1) = xs.take k ++ [((xs ++ [z])[k]'(by simp; omega))] := by
    rw [take_at (xs ++ [z]) k (by simp; omega), List.take_append_of_le_length h]
  have e2 : ((xs ++ [z]).drop k).take ((xs ++ [z]).length - (k + 1)) = xs.drop k := by
    rw [List.drop_append_of_le_length h, List.length_append, List.length_singleton, List.take_append_of_le_length (by simp), List.take_of_length_le (by simp)]
  rw [e1, e2, List.append_assoc, List.set_append_right _ _ (by simp; omega)]
  have hk : (xs.take k).length = k := by simp; omega
  rw [hk, Nat.sub_self, List.append_assoc]
  rfl
/-- The place of a number behind all that are not above it, from k down. -/
def backF (xs : List Int) (c : Int) : Nat → Nat
  | 0 => 0
  | k + 1 => if rd xs (k : Int) > c then backF xs c k else k + 1
theorem backF_le (xs : List Int) (c : Int) : ∀ k, backF xs c k ≤ k
  | 0 => Nat.le_refl _
  | k + 1 => by unfold backF; split; · exact Nat.le_succ_of_le (backF_le xs c k)
                · exact Nat.le_refl _
def put1 (s : List Int) (c : Int) : List Int := insAt s (backF s c s.length) c
def sortF (s l : List Int) : List Int := l.foldl put1 s
def sorted (l : List Int) : List Int := sortF [] l
theorem put1_length (s : List Int) (c : Int) : (put1 s c).length = s.length + 1 := insAt_length _ _ _ (backF_le _ _ _)
theorem put1_perm (s : List Int) (c : Int) : (put1 s c).Perm (c :: s) := insAt_perm _ _ _
theorem sortF_perm : ∀ (l s : List Int), (sortF s l).Perm (s ++ l)
  | [], s => by simp [sortF]
  | c :: r, s => by
    show (sortF (put1 s c) r).Perm _
    refine (sortF_perm r _).trans ?_
    refine ((put1_perm s c).append_right r).trans ?_
    rw [List.cons_append]
    exact List.perm_middle.symm
theorem sorted_perm (l : List Int) : (sorted l).Perm l := sortF_perm l []
theorem sorted_length (l : List Int) : (sorted l).length = l.length := (sorted_perm l).length_eq
theorem mem_sorted {l : List Int} {x : Int} : x ∈ sorted l ↔ x ∈ l := (sorted_perm l).mem_iff
def Asc (s : List Int) : Prop := s.Pairwise (· ≤ ·)
theorem backF_right (xs : List Int) (c : Int) : ∀ k, k ≤ xs.length → ∀ j (h : j < xs.length), backF xs c k ≤ j → j < k → xs[j] > c
  | 0, _, j, _, _, h => by omega
  | k + 1, hk, j, hj, h1, h2 => by
    unfold backF at h1
    split at h1
    · rename_i hc
      rw [rd_at xs k (by omega)] at hc
      rcases Nat.lt_or_ge j k with h3 | h3
      · exact backF_right xs c k (by omega) j hj h1 h3
      · obtain rfl : j = k := by omega
        exact hc
    · omega
theorem backF_left (xs : List Int) (c : Int) (hs : Asc xs) : ∀ k, k ≤ xs.length → ∀ j (h : j < xs.length), j < backF xs c k → xs[j] ≤ c
  | 0, _, j, _, h => by simp [backF] at h
  | k + 1, hk, j, hj, h1 => by
    unfold backF at h1
    split at h1
    · exact backF_left xs c hs k (by omega) j hj h1
    · rename_i hc
      rw [rd_at xs k (by omega)] at hc
      have hjk : xs[j] ≤ xs[k]'(by omega) := by
        rcases Nat.lt_or_ge j k with h3 | h3
        · exact List.pairwise_iff_getElem.1 hs j k hj (by omega) h3
        · obtain rfl : j = k := by omega
          exact Int.le_refl _
      omega
theorem put1_asc (s : List Int) (c : Int) (hs : Asc s) : Asc (put1 s c) := by
  unfold put1 insAt Asc
  have hr := backF_right s c s.length (Nat.le_refl _)
  have hl := backF_left s c hs s.length (Nat.le_refl _)
  have hk := backF_le s c s.length
  generalize backF s c s.length = k at hr hl hk
  rw [List.append_assoc, List.pairwise_append]
  refine ⟨hs.sublist (List.take_sublist _ _), ?_, ?_⟩
  · rw [List.singleton_append, List.pairwise_cons]
    refine ⟨fun y hy => ?_, hs.sublist (List.drop_sublist _ _)⟩
    obtain ⟨j, hj, rfl⟩ := List.mem_iff_getElem.1 hy
    rw [List.getElem_drop]
    have := hr (k + j) (by simp at hj; omega) (by omega) (by simp at hj; omega)
    omega
  · intro x hx y hy
    obtain ⟨i, hi, rfl⟩ := List.mem_iff_getElem.1 hx
    rw [List.getElem_take]
    have h1 : i < k ∧ i < s.length := by simp at hi; omega
    have h2 := hl i h1.2 h1.1
    rw [List.singleton_append, List.mem_cons] at hy
    rcases hy with rfl | hy
    · exact h2
    · obtain ⟨j, hj, rfl⟩ := List.mem_iff_getElem.1 hy
      rw [List.getElem_drop]
      have := hr (k + j) (by simp at hj; omega) (by omega) (by simp at hj; omega)
      omega
theorem sortF_asc : ∀ (l s : List Int), Asc s → Asc (sortF s l)
  | [], s, h => h
  | c :: r, s, h => sortF_asc r (put1 s c) (put1_asc s c h)
theorem sorted_asc (l : List Int) : Asc (sorted l) := sortF_asc l [] List.Pairwise.nil
theorem sorted_nodup {l : List Int} (h : l.Nodup) : (sorted l).Nodup := (sorted_perm l).nodup_iff.2 h
/-- All places from i on. -/
def allFrom (n i : Nat) (p : Nat → Bool) : Bool := decide (∀ j, j < n → i ≤ j → p j = true)
theorem allFrom_end (n : Nat) (p : Nat → Bool) : allFrom n n p = true := decide_eq_true (fun j h1 h2 => by omega)
theorem allFrom_step {n i : Nat} (p : Nat → Bool) (h : i < n) : allFrom n i p = (p i && allFrom n (i + 1) p) := by
  unfold allFrom
  rw [Bool.eq_iff_iff, Bool.and_eq_true, decide_eq_true_iff, decide_eq_true_iff]
  constructor
  · exact fun hp => ⟨hp i h (Nat.le_refl _), fun j h1 h2 => hp j h1 (by omega)⟩
  · rintro ⟨h0, hp⟩ j h1 h2
    rcases Nat.lt_or_ge i j with h3 | h3
    · exact hp j h1 h3
    · obtain rfl : i = j := by omega
      exact h0
theorem allFrom_iff {n i : Nat} {p : Nat → Bool} : allFrom n i p = true ↔ ∀ j, j < n → i ≤ j → p j = true := by simp [allFrom]
def chainA (s : List Int) (j : Nat) : Bool := decide (suitOf (rd s (j : Int)) = suitOf (rd s 0)) && decide (wrap64 (rd s (j : Int) - 1) = rd s ((j : Int) - 1))
def chainB (s : List Int) (j : Nat) : Bool := decide (suitOf (rd s (j : Int)) = suitOf (rd s 0)) && decide (rd s (j : Int) = wrap64 (rd s 0 + (j : Int)))
def runMeld (l : List Int) : Bool := isHand l && (decide (3 ≤ l.length) && allFrom (sorted l).length 0 (chainB (sorted l)))
theorem chains {s : List Int} (hc : ∀ x ∈ s, isCard x = true) (hl : s.length ≤ 1048576000) : allFrom s.length 1 (chainA s) = allFrom s.length 0 (chainB s) := by
  have hr : ∀ j : Nat, j < s.length → 0 ≤ rd s (j : Int) ∧ rd s (j : Int) ≤ 51 := fun j hj => by
    rw [rd_at s j hj]
    exact (isCard_iff _).1 (hc _ (List.getElem_mem hj))
  rw [Bool.eq_iff_iff, allFrom_iff, allFrom_iff]
  unfold chainA chainB
  simp only [Bool.and_eq_true, decide_eq_true_eq]
  constructor
  · intro h
    have key : ∀ j : Nat, j < s.length → rd s (j : Int) = rd s 0 + (j : Int) := by
      intro j
      induction j with
      | zero => intro _; simp
      | succ j ih =>
        intro hj
        have h1 := (h (j + 1) hj (by omega)).2
        have h2 := hr (j + 1) hj
        rw [w64 _ (by omega), show ((j + 1 : Nat) : Int) - 1 = (j : Int) by omega] at h1
        have h3 := ih (by omega)
        omega
    intro j hj _
    have h0 := hr 0 (by omega)
    refine ⟨?_, ?_⟩
    · rcases Nat.eq_zero_or_pos j with rfl | hp
      · rfl
      · exact (h j hj hp).1
    · have h0' : 0 ≤ rd s 0 ∧ rd s 0 ≤ 51 := h0
      rw [w64 _ (by omega)]; exact key j hj
  · intro h j hj h1
    have h0 : 0 ≤ rd s 0 ∧ rd s 0 ≤ 51 := hr 0 (by omega)
    have h2 := h j hj (by omega)
    have h3 := h (j - 1) (by omega) (by omega)
    have h4 := hr j hj
    refine ⟨h2.1, ?_⟩
    have h5 := h2.2
    have h6 := h3.2
    rw [w64 _ (by omega)] at h5 h6
    rw [show ((j - 1 : Nat) : Int) = (j : Int) - 1 by omega] at h6
    rw [w64 _ (by omega)]
    omega
def choices (hand trick : List Int) : List Int := (sorted hand).filter (mayPlay hand trick)
theorem choices_length (h t : List Int) : (choices h t).length ≤ h.length := by
  unfold choices
  have := List.length_filter_le (mayPlay h t) (sorted h)
  rw [sorted_length] at this
  exact this

end Go.Proofs.Ytecjbogconeilaa.Lib
