/- Rows put in their order, as a plain function: what is put in alone decides. No condition. -/
import Derived.Test.YtecjbogconeilaaFive
namespace Go.Proofs.Ytecjbogconeilaa.Lib
open Go.RowKit Go.Proofs.YtecjbogconeilaaW.PrintWords Go.Proofs.YtecjbogconeilaaW.PrintLast Go.Proofs.YtecjbogconeilaaW.PrintMore
set_option linter.unusedVariables false
set_option linter.unusedSimpArgs false

theorem before_cons (x y : Int) (a b : List Int) : before (x :: a) (y :: b) = if x = y then before a b else decide (x < y) := rfl
theorem before_nil (b : List Int) : before [] b = decide (0 < b.length) := by rw [before_end (.inl rfl)]; rfl
theorem before_nil2 (a : List Int) : before a [] = false := by rw [before_end (.inr rfl)]; exact decide_eq_false (by simp)
theorem before_irrefl : ∀ a : List Int, before a a = false
  | [] => rfl
  | x :: a => by rw [before_cons, if_pos rfl]; exact before_irrefl a
theorem before_total : ∀ a b : List Int, a ≠ b → before a b = true ∨ before b a = true
  | [], [], h => absurd rfl h
  | [], y :: b, _ => .inl rfl
  | x :: a, [], _ => .inr rfl
  | x :: a, y :: b, h => by
    rw [before_cons, before_cons]
    by_cases e : x = y
    · rw [if_pos e, if_pos e.symm]
      exact before_total a b (fun e2 => h (by rw [e, e2]))
    · rw [if_neg e, if_neg (fun e2 => e e2.symm)]
      rcases Int.lt_or_gt_of_ne e with g | g
      · exact .inl (decide_eq_true g)
      · exact .inr (decide_eq_true g)
theorem before_trans : ∀ a b c : List Int, before a b = true → before b c = true → before a c = true
  | a, [], c, h, _ => by rw [before_nil2] at h; cases h
  | a, y :: b, [], _, h => by rw [before_nil2] at h; cases h
  | [], y :: b, z :: c, _, _ => rfl
  | x :: a, y :: b, z :: c, h1, h2 => by
    rw [before_cons] at h1 h2 ⊢
    by_cases e1 : x = y
    · rw [if_pos e1] at h1
      by_cases e2 : y = z
      · rw [if_pos e2] at h2; rw [if_pos (e1.trans e2)]; exact before_trans a b c h1 h2
      · rw [if_neg e2] at h2; rw [if_neg (fun e => e2 (e1.symm.trans e)), e1]; exact h2
    · rw [if_neg e1] at h1
      have g1 := of_decide_eq_true h1
      by_cases e2 : y = z
      · rw [if_neg (fun e => e1 (e.trans e2.symm)), ← e2]; exact h1
      · rw [if_neg e2] at h2
        have g2 := of_decide_eq_true h2
        rw [if_neg (by omega)]; exact decide_eq_true (by omega)
theorem before_asymm (a b : List Int) (h : before a b = true) : before b a = false := by
  cases e : before b a with
  | false => rfl
  | true => have := before_trans a b a h e; rw [before_irrefl] at this; cases this
/-- The place at which a row is put in, sought from the end. -/
def backR (xs : List (List Int)) (c : List Int) : Nat → Nat
  | 0 => 0
  | k + 1 => if before c (xs.getD k []) = true then backR xs c k else k + 1
theorem backR_le (xs : List (List Int)) (c : List Int) : ∀ k, backR xs c k ≤ k
  | 0 => Nat.le_refl _
  | k + 1 => by
    unfold backR
    have := backR_le xs c k
    split <;> omega
def putR (s : List (List Int)) (c : List Int) : List (List Int) := insAt s (backR s c s.length) c
def putAll (s l : List (List Int)) : List (List Int) := l.foldl putR s
theorem putR_perm (s : List (List Int)) (c : List Int) : (putR s c).Perm (c :: s) := insAt_perm _ _ _
theorem putR_length (s : List (List Int)) (c : List Int) : (putR s c).length = s.length + 1 := insAt_length _ _ _ (backR_le _ _ _)
theorem putAll_perm : ∀ (l s : List (List Int)), (putAll s l).Perm (s ++ l)
  | [], s => by simp [putAll]
  | c :: r, s => by
    refine (putAll_perm r (putR s c)).trans ?_
    refine ((putR_perm s c).append_right r).trans ?_
    rw [List.cons_append]
    exact List.perm_middle.symm
def Rising (s : List (List Int)) : Prop := s.Pairwise (fun a b => before a b = true)
theorem getD_at {α : Type} (xs : List α) (j : Nat) (z : α) (h : j < xs.length) : xs.getD j z = xs[j] := by rw [List.getD_eq_getElem?_getD, List.getElem?_eq_getElem h]; rfl
theorem backR_right (xs : List (List Int)) (c : List Int) : ∀ k, k ≤ xs.length → ∀ j (h : j < xs.length), backR xs c k ≤ j → j < k → before c xs[j] = true
  | 0, _, j, _, _, h2 => by omega
  | k + 1, hk, j, h, h1, h2 => by
    unfold backR at h1
    split at h1
    · rename_i hb
      rw [getD_at xs k [] (by omega)] at hb
      by_cases e : j = k
      · subst e; exact hb
      · exact backR_right xs c k (by omega) j h h1 (by omega)
    · omega
theorem backR_left (xs : List (List Int)) (c : List Int) (hc : c ∉ xs) (hs : Rising xs) : ∀ k, k ≤ xs.length → ∀ j (h : j < xs.length), j < backR xs c k → before xs[j] c = true
  | 0, _, j, _, h1 => by unfold backR at h1; omega
  | k + 1, hk, j, h, h1 => by
    unfold backR at h1
    split at h1
    · exact backR_left xs c hc hs k (by omega) j h h1
    · rename_i hb
      rw [getD_at xs k [] (by omega)] at hb
      have hk2 : k < xs.length := by omega
      have h3 : before xs[k] c = true := (before_total c xs[k] (fun e => hc (e ▸ List.getElem_mem hk2))).resolve_left hb
      by_cases e : j = k
      · subst e; exact h3
      · exact before_trans _ _ _ (List.pairwise_iff_getElem.1 hs j k h hk2 (by omega)) h3
theorem putR_rising (s : List (List Int)) (c : List Int) (hc : c ∉ s) (hs : Rising s) : Rising (putR s c) := by
  have hk := backR_le s c s.length
  unfold putR insAt Rising
  rw [List.append_assoc, List.pairwise_append]
  refine ⟨hs.sublist (List.take_sublist _ _), ?_, ?_⟩
  · rw [List.singleton_append, List.pairwise_cons]
    refine ⟨fun y hy => ?_, hs.sublist (List.drop_sublist _ _)⟩
    obtain ⟨j, hj, rfl⟩ := List.getElem_of_mem hy
    rw [List.length_drop] at hj
    rw [List.getElem_drop]
    exact backR_right s c s.length (Nat.le_refl _) _ (by omega) (by omega) (by omega)
  · intro a ha b hb
    obtain ⟨i, hi, rfl⟩ := List.getElem_of_mem ha
    rw [List.length_take] at hi
    rw [List.getElem_take]
    have h1 := backR_left s c hc hs s.length (Nat.le_refl _) i (by omega) (by omega)
    rcases List.mem_append.1 hb with hb | hb
    · rw [List.mem_singleton.1 hb]; exact h1
    · obtain ⟨j, hj, rfl⟩ := List.getElem_of_mem hb
      rw [List.length_drop] at hj
      rw [List.getElem_drop]
      exact before_trans _ _ _ h1 (backR_right s c s.length (Nat.le_refl _) _ (by omega) (by omega) (by omega))
theorem putAll_rising : ∀ (l s : List (List Int)), Rising s → (s ++ l).Nodup → Rising (putAll s l)
  | [], s, hs, _ => hs
  | c :: r, s, hs, hn => by
    have hm : (c :: (s ++ r)).Nodup := List.perm_middle.nodup_iff.1 hn
    have hc : c ∉ s := fun h => (List.nodup_cons.1 hm).1 (List.mem_append_left r h)
    refine putAll_rising r (putR s c) (putR_rising s c hc hs) ?_
    exact (((putR_perm s c).append_right r).nodup_iff).2 hm
theorem rising_unique : ∀ (l m : List (List Int)), Rising l → Rising m → (∀ x, x ∈ l ↔ x ∈ m) → l = m
  | [], [], _, _, _ => rfl
  | [], b :: m, _, _, h => absurd ((h b).2 (by simp)) (by simp)
  | a :: l, [], _, _, h => absurd ((h a).1 (by simp)) (by simp)
  | a :: l, b :: m, hl, hm, h => by
    have hl' := List.pairwise_cons.1 hl
    have hm' := List.pairwise_cons.1 hm
    have e : a = b := by
      rcases List.mem_cons.1 ((h a).1 (by simp)) with e | h1
      · exact e
      rcases List.mem_cons.1 ((h b).2 (by simp)) with e | h2
      · exact e.symm
      have g1 := hm'.1 a h1
      have g2 := before_asymm _ _ (hl'.1 b h2)
      rw [g1] at g2; cases g2
    subst e
    congr 1
    refine rising_unique l m hl'.2 hm'.2 (fun x => ⟨fun hx => ?_, fun hx => ?_⟩)
    · rcases List.mem_cons.1 ((h x).1 (by simp [hx])) with e | h1
      · have := hl'.1 x hx; rw [e, before_irrefl] at this; cases this
      · exact h1
    · rcases List.mem_cons.1 ((h x).2 (by simp [hx])) with e | h1
      · have := hm'.1 x hx; rw [e, before_irrefl] at this; cases this
      · exact h1
/-- What is put in, in whatever order, decides the list. -/
theorem putAll_unique {l m : List (List Int)} (hl : l.Nodup) (hm : m.Nodup) (h : ∀ x, x ∈ l ↔ x ∈ m) : putAll [] l = putAll [] m := by
  refine rising_unique _ _ (putAll_rising l [] List.Pairwise.nil (by simpa using hl)) (putAll_rising m [] List.Pairwise.nil (by simpa using hm)) (fun x => ?_)
  rw [(putAll_perm l []).mem_iff, (putAll_perm m []).mem_iff]
  simpa using h x
end Go.Proofs.Ytecjbogconeilaa.Lib
