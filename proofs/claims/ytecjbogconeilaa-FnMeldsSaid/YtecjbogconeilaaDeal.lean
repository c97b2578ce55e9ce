/- Dealing as a plain function, and what it does. No condition. -/
import Derived.Test.YtecjbogconeilaaHands
import Derived.Test.YtecjbogconeilaaSheets
import Derived.Test.YtecjbogconeilaaDraw
namespace Go.Proofs.Ytecjbogconeilaa.Lib
open Go.RowKit Go.Proofs.YtecjbogconeilaaW.PrintWords Go.Proofs.YtecjbogconeilaaW.PrintLast Go.Proofs.YtecjbogconeilaaW.PrintMore
set_option linter.unusedVariables false
set_option linter.unusedSimpArgs false

/-- Different members of a list are no more than the list is long. -/
theorem pigeon {α : Type} : ∀ (l m : List α), l.Nodup → (∀ x ∈ l, x ∈ m) → l.length ≤ m.length
  | [], m, _, _ => by simp
  | x :: r, m, hd, h => by
    rw [List.nodup_cons] at hd
    obtain ⟨a, b, rfl⟩ := List.append_of_mem (h x (by simp))
    have := pigeon r (a ++ b) hd.2 (fun y hy => by
      have h1 := h y (by simp [hy])
      have h2 : y ≠ x := fun e => hd.1 (e ▸ hy)
      simp only [List.mem_append, List.mem_cons] at h1 ⊢
      rcases h1 with h1 | h1 | h1
      · exact .inl h1
      · exact absurd h1 h2
      · exact .inr h1)
    simp only [List.length_append, List.length_cons] at this ⊢
    omega
def sevens (k : Nat) : List Int := (List.range 52).map fun (j : Nat) => (((k + 7 * j) % 52 : Nat) : Int)
theorem sevens_nodup : ∀ k : Nat, k < 52 → (sevens k).Nodup := by decide +kernel
/-- By steps of seven one comes to a card that is not there. -/
theorem seven_free (out : List Int) (h : out.length < 52) (k : Nat) (hk : k < 52) : ∃ j : Nat, j < 52 ∧ (((k + 7 * j) % 52 : Nat) : Int) ∉ out := by
  rcases Classical.em (∃ j : Nat, j < 52 ∧ (((k + 7 * j) % 52 : Nat) : Int) ∉ out) with h1 | h1
  · exact h1
  · exfalso
    have h2 := pigeon (sevens k) out (sevens_nodup k hk) (fun x hx => by
      unfold sevens at hx
      obtain ⟨j, hj, rfl⟩ := List.mem_map.1 hx
      rw [List.mem_range] at hj
      rcases Classical.em ((((k + 7 * j) % 52 : Nat) : Int) ∈ out) with h3 | h3
      · exact h3
      · exact absurd ⟨j, hj, h3⟩ h1)
    have : (sevens k).length = 52 := by simp [sevens]
    omega

/-- Row q behind a whole rounds over p players and b more cards. -/
def dealRow (deck : List Int) (p a b q : Nat) : List Int := (List.range (if q < b then a + 1 else a)).map fun (j : Nat) => rd deck ((j * p + q : Nat) : Int)
def dealRows (deck : List Int) (p a b : Nat) : List (List Int) := (List.range p).map (dealRow deck p a b)
theorem dealRows_length (deck : List Int) (p a b : Nat) : (dealRows deck p a b).length = p := by simp [dealRows]
theorem dealRows_at (deck : List Int) (p a b q : Nat) (h : q < (dealRows deck p a b).length) : (dealRows deck p a b)[q] = dealRow deck p a b q := by simp [dealRows]
theorem dealRow_len (deck : List Int) (p a b q : Nat) : (dealRow deck p a b q).length = if q < b then a + 1 else a := by simp [dealRow]
theorem dealRow_at (deck : List Int) (p a b q j : Nat) (h : j < (dealRow deck p a b q).length) : (dealRow deck p a b q)[j] = rd deck ((j * p + q : Nat) : Int) := by simp [dealRow]
theorem dealRow_snoc (deck : List Int) (p a b : Nat) : dealRow deck p a b b ++ [rd deck ((a * p + b : Nat) : Int)] = dealRow deck p a (b + 1) b := by
  unfold dealRow
  rw [if_neg (Nat.lt_irrefl b), if_pos (Nat.lt_succ_self b), List.range_succ, List.map_append]
  rfl
theorem dealRow_other (deck : List Int) (p a b q : Nat) (h : q ≠ b) : dealRow deck p a (b + 1) q = dealRow deck p a b q := by
  unfold dealRow
  by_cases h1 : q < b
  · rw [if_pos h1, if_pos (by omega)]
  · rw [if_neg h1, if_neg (by omega)]
theorem dealRows_set (deck : List Int) (p a b : Nat) (h : b < p) : (dealRows deck p a b).set b (dealRow deck p a b b ++ [rd deck ((a * p + b : Nat) : Int)]) = dealRows deck p a (b + 1) := by
  rw [dealRow_snoc]
  apply List.ext_getElem
  · simp [dealRows]
  · intro q h1 h2
    rw [List.getElem_set]
    by_cases e : b = q
    · subst e; rw [if_pos rfl, dealRows_at]
    · rw [if_neg e, dealRows_at, dealRows_at, dealRow_other _ _ _ _ _ (fun z => e z.symm)]
theorem dealRows_round (deck : List Int) (p a : Nat) : dealRows deck p a p = dealRows deck p (a + 1) 0 := by
  apply List.ext_getElem
  · simp [dealRows]
  · intro q h1 h2
    rw [dealRows_at, dealRows_at]
    rw [dealRows_length] at h1
    unfold dealRow
    rw [if_pos h1, if_neg (by omega)]
theorem dealRows_zero (deck : List Int) (p : Nat) : dealRows deck p 0 0 = List.replicate p [] := by
  apply List.ext_getElem
  · simp [dealRows]
  · intro q h1 h2
    rw [dealRows_at, List.getElem_replicate]
    simp [dealRow]
/-- All hands' cards are those that were dealt. -/
theorem flatten_set (l : List (List Int)) (q : Nat) (h : q < l.length) (x : Int) : ((l.set q (l[q] ++ [x])).flatten).Perm (l.flatten ++ [x]) := by
  induction l generalizing q with
  | nil => simp at h
  | cons r t ih =>
    cases q with
    | zero =>
      simp only [List.set_cons_zero, List.getElem_cons_zero, List.flatten_cons, List.append_assoc]
      exact List.Perm.append_left r List.perm_append_comm
    | succ q =>
      simp only [List.set_cons_succ, List.getElem_cons_succ, List.flatten_cons, List.append_assoc]
      exact List.Perm.append_left r (ih q (by simpa using h))
theorem deal_perm (deck : List Int) (p : Nat) : ∀ a : Nat, (∀ b, b ≤ p → a * p + b ≤ deck.length → ((dealRows deck p a b).flatten).Perm (deck.take (a * p + b))) := by
  have step : ∀ a : Nat, (a * p ≤ deck.length → ((dealRows deck p a 0).flatten).Perm (deck.take (a * p))) → ∀ b, b ≤ p → a * p + b ≤ deck.length → ((dealRows deck p a b).flatten).Perm (deck.take (a * p + b)) := by
    intro a h0 b
    induction b with
    | zero => intro _ h; exact h0 h
    | succ b ih =>
      intro hb h
      have hlt : b < (dealRows deck p a b).length := by rw [dealRows_length]; omega
      rw [← dealRows_set deck p a b (by omega), ← dealRows_at deck p a b b hlt]
      refine (flatten_set _ b hlt _).trans ?_
      have e : deck.take (a * p + (b + 1)) = deck.take (a * p + b) ++ [rd deck ((a * p + b : Nat) : Int)] := by
        rw [rd_at deck (a * p + b) (by omega), ← Nat.add_assoc, take_at deck (a * p + b) (by omega)]
      rw [e]
      exact (ih (by omega) (by omega)).append_right _
  intro a
  induction a with
  | zero =>
    refine step 0 (fun _ => ?_)
    rw [dealRows_zero, Nat.zero_mul, List.take_zero]
    have : (List.replicate p ([] : List Int)).flatten = [] := by simp
    rw [this]
  | succ a ih =>
    refine step (a + 1) (fun h => ?_)
    have e : (a + 1) * p = a * p + p := Nat.succ_mul a p
    rw [← dealRows_round, e]
    exact ih p (Nat.le_refl p) (by omega)
def canDeal (deck : List Int) (p e : Int) : Bool := isHand deck && (inR p 1 6 && (inR e 0 20 && decide (p * e ≤ (deck.length : Int))))
def dealt (deck : List Int) (p e : Int) : List (List Int) × List Int × Bool := if canDeal deck p e = true then (dealRows deck p.toNat e.toNat 0, deck.drop (p * e).toNat, true) else ([], deck, false)
theorem canDeal_iff {deck : List Int} {p e : Int} (h : canDeal deck p e = true) : isHand deck = true ∧ (1 ≤ p ∧ p ≤ 6) ∧ (0 ≤ e ∧ e ≤ 20) ∧ p * e ≤ (deck.length : Int) := by
  simp only [canDeal, Bool.and_eq_true, inR_iff, decide_eq_true_eq] at h
  exact h
theorem mul_nat {p e : Int} (hp : 0 ≤ p) (he : 0 ≤ e) : p * e = ((e.toNat * p.toNat : Nat) : Int) := by
  rw [Int.natCast_mul, Int.toNat_of_nonneg he, Int.toNat_of_nonneg hp, Int.mul_comm]
theorem mul_bound {p e : Int} (hp : 1 ≤ p ∧ p ≤ 6) (he : 0 ≤ e ∧ e ≤ 20) : 0 ≤ p * e ∧ p * e ≤ 120 := by
  refine ⟨Int.mul_nonneg (by omega) he.1, ?_⟩
  exact Int.le_trans (Int.mul_le_mul hp.2 he.2 he.1 (by omega)) (by decide)

end Go.Proofs.Ytecjbogconeilaa.Lib
