/- In the given program FnExactSuitsText answers true for every input, by what its functions compute; no condition. -/
import Derived.Test.YtcegnlconafikaaQFnExactSuitsTextx3
import Derived.Test.YtcegnlconafikaaLib
import Derived.Test.YtcegnlconafikaaCards
import Derived.Test.YtcegnlconafikaaCards2
import Derived.Test.YtcegnlconafikaaCalls
import Derived.Test.YtcegnlconafikaaHands
namespace Go.Proofs.Ytcegnlconafikaa.Pure
open Go.RowKit Go.Proofs.Ytcegnlconafikaa.QFnExactSuitsText Go.Proofs.YtcegnlconafikaaW.PrintWords Go.Proofs.YtcegnlconafikaaW.PrintLast Go.Proofs.YtcegnlconafikaaW.PrintMore Go.Proofs.Ytcegnlconafikaa.Lib
set_option linter.unusedVariables false
set_option linter.unusedSimpArgs false

theorem laws_toIntS_ev (l : List Int) (hl : l.length ≤ 1048576000) : Ev (fun k => laws_toIntS.f k l) l := by
  simp only [laws_toIntS.f]
  refine ev_pos (by omega) (ev_pos (by omega) ?_)
  refine ev_loop (fun k (s : List Int) i => laws_toIntS.l0 k l s i) l (fun _ _ => l) (fun s i => s.length = l.length ∧ s.take i = l.take i) ?_ ?_ _ 0 (by omega) ⟨by simp, by simp⟩
  · rintro s ⟨h1, h2⟩
    refine ev_unfold (fun k => rfl) ?_
    simp only [laws_toIntS.l0]
    refine ev_neg (by omega) (ev_ret ?_)
    rw [List.take_of_length_le (by omega), List.take_of_length_le (by omega)] at h2
    exact h2
  · rintro s i hi ⟨h1, h2⟩ ih
    refine ev_unfold (fun k => rfl) ?_
    simp only [laws_toIntS.l0]
    refine ev_pos (by omega) (ev_pos (by omega) (ev_pos (by omega) ?_))
    rw [w64next i (by omega), rd_at l i hi, Int.toNat_natCast]
    refine ih _ ⟨by simpa using h1, ?_⟩
    apply List.ext_getElem
    · simp; omega
    · intro j hj1 hj2
      simp at hj1 hj2
      simp only [List.getElem_take, List.getElem_set]
      by_cases hij : i = j
      · subst hij; simp
      · rw [if_neg hij]
        have h3 : (s.take i)[j]'(by simp; omega) = (l.take i)[j]'(by simp; omega) := by simp only [h2]
        simpa using h3

theorem laws_eqIntS_ev (a b : List Int) (ha : a.length ≤ 1048576000) : Ev (fun k => laws_eqIntS.f k a b) (decide (a = b)) := by
  simp only [laws_eqIntS.f]
  refine ev_ite (fun hlen => ?_) (fun hne => ev_ret ?_)
  · have hlen' : a.length = b.length := by omega
    have h := ev_loop (fun k (_ : Unit) i => laws_eqIntS.l0 k a b i) a (fun _ r => decide (r = b.drop (a.length - r.length))) (fun _ _ => True) ?_ ?_ () 0 (by omega) trivial
    · refine ev_done h ?_
      simp
    · rintro _ _
      refine ev_unfold (fun k => rfl) ?_
      simp only [laws_eqIntS.l0]
      refine ev_neg (by omega) (ev_ret ?_)
      rw [List.length_nil, Nat.sub_zero, hlen', drop_end]
      simp
    · rintro _ i hi _ ih
      refine ev_unfold (fun k => rfl) ?_
      simp only [laws_eqIntS.l0]
      refine ev_pos (by omega) (ev_pos (by omega) (ev_pos (by omega) ?_))
      rw [w64next i (by omega), rd_at a i hi, rd_at b i (by omega)]
      have e1 : a.length - (a[i] :: a.drop (i + 1)).length = i := by simp; omega
      have e2 : a.length - (a.drop (i + 1)).length = i + 1 := by simp; omega
      refine ev_ite (fun heq => ?_) (fun hne => ev_ret ?_)
      · refine ev_done (ih () trivial) ?_
        rw [e1, e2, drop_at b i (by omega), heq]
        exact decide_eq_decide.2 ⟨fun h => by rw [h], fun h => (List.cons.inj h).2⟩
      · rw [e1, drop_at b i (by omega)]
        exact (decide_eq_false (fun h => hne (List.cons.inj h).1)).symm
  · have : a ≠ b := by rintro rfl; exact hne rfl
    simp [this]

theorem spec_l1In_eq (n a b : Int) : spec_l1In.f n a b = some (inR n a b) := by
  unfold spec_l1In.f inR
  by_cases h : a ≤ n
  · rw [if_pos (by omega)]; simp [h]
  · rw [if_neg (by omega)]; simp [h]

theorem spec_IsCard_eq (c : Int) : spec_IsCard.f c = some (isCard c) := by
  unfold spec_IsCard.f isCard
  rw [spec_l1In_eq]; rfl

theorem spec_HasCard_ev (l : List Int) (c : Int) (hl : l.length ≤ 1048576000) : Ev (fun k => spec_HasCard.f k l c) (hasCard l c) := by
  simp only [spec_HasCard.f]
  refine ev_done (ev_loop (fun k (_ : Unit) i => spec_HasCard.l0 k l c i) l (fun _ r => hasCard r c) (fun _ _ => True) ?_ ?_ () 0 (by omega) trivial) rfl
  · rintro s _
    refine ev_unfold (fun k => rfl) ?_
    simp only [spec_HasCard.l0]
    exact ev_neg (by omega) (ev_ret (by simp [hasCard]))
  · rintro s i hi _ ih
    refine ev_unfold (fun k => rfl) ?_
    simp only [spec_HasCard.l0]
    rw [w64next i (by omega), rd_at l i hi]
    refine ev_pos (by omega) (ev_pos (by omega) (ev_ite (fun h => ev_ret ?_) (fun h => ev_done (ih () trivial) ?_)))
    · simp [hasCard, h]
    · have h2 : ¬ c = l[i] := fun e => h e.symm
      simp only [hasCard, List.mem_cons]
      exact decide_eq_decide.2 ⟨fun h => .inr h, fun h => h.resolve_left h2⟩

theorem spec_IsHand_ev (l : List Int) (hl : l.length ≤ 1048576000) : Ev (fun k => spec_IsHand.f k l) (isHand l) := by
  simp only [spec_IsHand.f]
  refine ev_done (ev_loopN (fun k (_ : Unit) i => spec_IsHand.l0 k l i) l.length (fun _ i => handF (l.take i) (l.drop i)) (fun _ _ => True) ?_ ?_ () 0 (by omega) trivial) (by simp [isHand])
  · rintro s _
    refine ev_unfold (fun k => rfl) ?_
    simp only [spec_IsHand.l0]
    refine ev_neg (by omega) (ev_ret ?_)
    rw [drop_end]; rfl
  · rintro s i hi _ ih
    have ht : (l.take i).length ≤ 1048576000 := by simp; omega
    refine ev_unfold (fun k => rfl) ?_
    simp only [spec_IsHand.l0]
    rw [w64next i (by omega), rd_at l i hi, drop_at l i hi, Int.toNat_natCast]
    unfold handF
    refine ev_pos (by omega) (ev_pos (by omega) (ev_eq (spec_IsCard_eq _) (ev_ite (fun h => ?_) (fun h => ev_ret ?_))))
    · refine ev_pos (by omega) (Ev.bind (spec_HasCard_ev _ _ ht) (ev_ite (fun h2 => ev_ret ?_) (fun h2 => ev_done (ih () trivial) ?_)))
      · rw [h2]; simp
      · rw [Bool.not_eq_true] at h2
        rw [h, h2, take_at l i hi]; simp
    · rw [Bool.not_eq_true] at h
      rw [h]; simp

theorem spec_l9Rank_eq (r : Int) (h0 : 0 ≤ r) (h1 : r ≤ 12) : spec_l9Rank.f r = some (letter rankLetters r) := by
  have e1 : (⟨#[50, 51, 52, 53, 54, 55, 56, 57, 84, 74, 81, 75, 65]⟩ : ByteArray) = rankLetters := rfl
  unfold spec_l9Rank.f
  rw [e1, w64 (r + 1) (by omega), if_pos h0, if_pos (by omega), if_pos (by omega)]
  rfl

theorem impl_PlaceOf_ev (l : List Int) (c : Int) (hl : l.length ≤ 1048576000) : Ev (fun k => impl_PlaceOf.f k l c) (placeOf l c) := by
  simp only [impl_PlaceOf.f]
  refine ev_loopN (fun k (_ : Unit) i => impl_PlaceOf.l0 k c l (l.length : Int) i) l.length (fun _ i => placeF c i (l.drop i)) (fun _ _ => True) ?_ ?_ () 0 (by omega) trivial
  · rintro s _
    refine ev_unfold (fun k => rfl) ?_
    simp only [impl_PlaceOf.l0]
    refine ev_neg (by omega) (ev_ret ?_)
    rw [drop_end]; rfl
  · rintro s i hi _ ih
    refine ev_unfold (fun k => rfl) ?_
    simp only [impl_PlaceOf.l0]
    refine ev_pos (by omega) (ev_pos (by omega) (ev_pos (by omega) ?_))
    rw [w64next i (by omega), rd_at l i hi, drop_at l i hi]
    unfold placeF
    refine ev_ite (fun h => ev_ret ?_) (fun h => ev_done (ih () trivial) ?_)
    · rw [if_pos h]
    · rw [if_neg h]; congr 1

theorem impl_HasCard_ev (l : List Int) (c : Int) (hl : l.length ≤ 1048576000) : Ev (fun k => impl_HasCard.f k l c) (hasCard l c) := by
  simp only [impl_HasCard.f]
  refine Ev.bind (impl_PlaceOf_ev l c hl) (ev_ret ?_)
  unfold hasCard
  exact decide_eq_decide.2 (placeOf_nonneg l c)

theorem impl_InRange_eq (n a b : Int) : impl_InRange.f n a b = some (inR n a b) := by
  unfold impl_InRange.f inR
  by_cases h : a ≤ n
  · rw [if_pos (by omega)]; simp [h]
  · rw [if_neg (by omega)]; simp [h]

theorem impl_IsCard_eq (c : Int) : impl_IsCard.f c = some (isCard c) := by
  unfold impl_IsCard.f isCard
  rw [impl_InRange_eq]; rfl

theorem impl_IsHand_ev (l : List Int) (hl : l.length ≤ 1048576000) : Ev (fun k => impl_IsHand.f k l) (isHand l) := by
  simp only [impl_IsHand.f]
  refine ev_done (ev_loopN (fun k (s : List Bool) i => impl_IsHand.l0 k l s i) l.length (fun _ i => handF (l.take i) (l.drop i)) (fun s i => s.length = 52 ∧ ∀ c : Nat, c < 52 → s.getD c false = decide ((c : Int) ∈ l.take i)) ?_ ?_ _ 0 (by omega) ⟨by simp, fun c hc => by rw [List.getD_eq_getElem?_getD, List.getElem?_replicate, if_pos hc]; simp⟩) (by simp [isHand])
  · rintro s _
    refine ev_unfold (fun k => rfl) ?_
    simp only [impl_IsHand.l0]
    refine ev_neg (by omega) (ev_ret ?_)
    rw [drop_end]; rfl
  · rintro s i hi ⟨h52, hs⟩ ih
    refine ev_unfold (fun k => rfl) ?_
    simp only [impl_IsHand.l0]
    rw [w64next i (by omega), rd_at l i hi, drop_at l i hi]
    unfold handF
    refine ev_pos (by omega) (ev_pos (by omega) (ev_eq (impl_IsCard_eq _) (ev_ite (fun h => ?_) (fun h => ev_ret ?_))))
    · have hc := (isCard_iff _).1 h
      have he := hs l[i].toNat (by omega)
      rw [show ((l[i].toNat : Nat) : Int) = l[i] by omega] at he
      refine ev_pos (by omega) (ev_pos (by omega) (ev_ite (fun h2 => ev_ret ?_) (fun h2 => ev_done (ih _ ⟨by simpa using h52, fun c hc2 => ?_⟩) ?_)))
      · rw [h2] at he
        unfold hasCard
        rw [← he]; simp
      · rw [take_at l i hi, List.getD_eq_getElem?_getD, List.getElem?_set]
        have h3 := hs c hc2
        rw [List.getD_eq_getElem?_getD] at h3
        by_cases hci : l[i].toNat = c
        · rw [if_pos hci, if_pos (by omega)]
          have : (c : Int) = l[i] := by omega
          exact (decide_eq_true (List.mem_append.2 (.inr (by rw [this]; exact List.mem_singleton.2 rfl)))).symm
        · rw [if_neg hci, h3]
          have : ¬ (c : Int) = l[i] := by omega
          exact decide_eq_decide.2 ⟨fun h => List.mem_append.2 (.inl h), fun h => (List.mem_append.1 h).resolve_right (fun h => this (List.mem_singleton.1 h))⟩
      · rw [Bool.not_eq_true] at h2
        rw [h2] at he
        unfold hasCard
        rw [h, ← he, take_at l i hi]; simp
    · rw [Bool.not_eq_true] at h
      rw [h]; simp

def sp1 : ByteArray := ⟨#[32]⟩
def col1 : ByteArray := ⟨#[58]⟩
/-- The ranks of a suit that a hand holds, from place j - 1 down. -/
def rowF (l : List Int) (k : Nat) (s : ByteArray) : Nat → ByteArray
  | 0 => s
  | j + 1 => rowF l k (if hasCard l ((k : Int) * 13 + (j : Int)) = true then s ++ letter rankLetters (j : Int) else s) j
def suitRow (l : List Int) (k : Nat) : ByteArray := rowF l k (letter suitLetters (k : Int) ++ col1) 13
theorem rowF_app (l : List Int) (k : Nat) (p : ByteArray) : ∀ (j : Nat) (s : ByteArray), rowF l k (p ++ s) j = p ++ rowF l k s j := by
  intro j
  induction j with
  | zero => intro s; rfl
  | succ j ih =>
    intro s
    unfold rowF
    split
    · rw [ByteArray.append_assoc]; exact ih _
    · exact ih _
theorem rowF_size (l : List Int) (k : Nat) : ∀ (j : Nat) (s : ByteArray), j ≤ 13 → (rowF l k s j).size ≤ s.size + j := by
  intro j
  induction j with
  | zero => intro s _; exact Nat.le_refl _
  | succ j ih =>
    intro s hj
    unfold rowF
    have h1 := letter_size rankLetters (j : Int) (by omega) (by rw [rankLetters_size]; omega)
    split
    · have := ih (s ++ letter rankLetters (j : Int)) (by omega)
      rw [ByteArray.size_append, h1] at this
      omega
    · have := ih s (by omega)
      omega
theorem suitRow_size (l : List Int) (k : Nat) (hk : k < 4) : (suitRow l k).size ≤ 15 := by
  have := rowF_size l k 13 (letter suitLetters (k : Int) ++ col1) (Nat.le_refl _)
  rw [ByteArray.size_append, letter_size suitLetters (k : Int) (by omega) (by rw [suitLetters_size]; omega)] at this
  have : col1.size = 1 := rfl
  unfold suitRow
  omega
theorem spec_inner (l : List Int) (hl : l.length ≤ 1048576000) (k : Nat) (hk : k < 4) {R : ByteArray} : ∀ (j : Nat) (s : ByteArray), j ≤ 13 → s.size + j ≤ 2000 →
    Ev (fun n => spec_SuitsText.l0 n l (if k > 0 then rowF l k s j ++ sp1 else rowF l k s j) ((k : Int) - 1)) R → Ev (fun n => spec_SuitsText.l1 n l s (k : Int) ((j : Int) - 1)) R := by
  intro j
  induction j with
  | zero =>
    intro s _ hs h
    refine ev_unfold (fun k => rfl) ?_
    simp only [spec_SuitsText.l1]
    rw [w64 ((k : Int) - 1) (by omega)]
    refine ev_neg (by omega) (ev_ite (fun h1 => ev_pos (by omega) ?_) (fun h1 => ?_))
    · rw [if_pos (by omega)] at h; exact h
    · rw [if_neg (by omega)] at h; exact h
  | succ j ih =>
    intro s hj hs h
    have e : ((j + 1 : Nat) : Int) - 1 = (j : Int) := by omega
    rw [e]
    refine ev_unfold (fun k => rfl) ?_
    simp only [spec_SuitsText.l1]
    have h1 := letter_size rankLetters (j : Int) (by omega) (by rw [rankLetters_size]; omega)
    rw [w64 ((k : Int) * 13) (by omega), w64 ((k : Int) * 13 + (j : Int)) (by omega), w64 ((j : Int) - 1) (by omega)]
    refine ev_pos (by omega) (Ev.bind (spec_HasCard_ev l _ hl) (ev_ite (fun h2 => ?_) (fun h2 => ?_)))
    · refine ev_eq (spec_l9Rank_eq (j : Int) (by omega) (by omega)) (ev_pos (by rw [h1]; omega) (ih _ (by omega) (by rw [ByteArray.size_append, h1]; omega) ?_))
      unfold rowF at h
      rw [if_pos h2] at h
      exact h
    · refine ih _ (by omega) (by omega) ?_
      unfold rowF at h
      rw [if_neg h2] at h
      exact h
theorem spec_round (l : List Int) (hl : l.length ≤ 1048576000) (k : Nat) (hk : k < 4) {R : ByteArray} (s : ByteArray) (hs : s.size ≤ 1000)
    (h : Ev (fun n => spec_SuitsText.l0 n l (if k > 0 then (s ++ suitRow l k) ++ sp1 else s ++ suitRow l k) ((k : Int) - 1)) R) : Ev (fun n => spec_SuitsText.l0 n l s (k : Int)) R := by
  have e1 : (⟨#[99, 100, 104, 115]⟩ : ByteArray) = suitLetters := rfl
  have hz := letter_size suitLetters (k : Int) (by omega) (by rw [suitLetters_size]; omega)
  have el : suitLetters.extract ((k : Int)).toNat ((k : Int) + 1).toNat = letter suitLetters (k : Int) := rfl
  refine ev_unfold (fun k => rfl) ?_
  simp only [spec_SuitsText.l0]
  rw [e1, w64 ((k : Int) + 1) (by omega), el]
  refine ev_pos (by omega) (ev_pos (by omega) (ev_pos (by omega) (ev_pos (by omega) (ev_pos (by rw [hz]; omega) (ev_pos (by rw [ByteArray.size_append, hz]; omega) ?_)))))
  have hc : (⟨#[58]⟩ : ByteArray) = col1 := rfl
  have hcs : col1.size = 1 := rfl
  rw [hc]
  have := spec_inner l hl k hk (R := R) 13 ((s ++ letter suitLetters (k : Int)) ++ col1) (Nat.le_refl _) (by rw [ByteArray.size_append, ByteArray.size_append, hz, hcs]; omega) (by
    rw [ByteArray.append_assoc, rowF_app]; exact h)
  exact this
theorem impl_inner (l : List Int) (hl : l.length ≤ 1048576000) (k : Nat) (hk : k < 4) (xs : List ByteArray) (hx : xs.length ≤ 10) {R : ByteArray} : ∀ (j : Nat) (s : ByteArray), j ≤ 13 → s.size + j ≤ 2000 →
    Ev (fun n => impl_SuitsText.l0 n l (xs ++ [rowF l k s j]) ((k : Int) - 1)) R → Ev (fun n => impl_SuitsText.l1 n l xs (k : Int) s ((j : Int) - 1)) R := by
  intro j
  induction j with
  | zero =>
    intro s _ hs h
    refine ev_unfold (fun k => rfl) ?_
    simp only [impl_SuitsText.l1]
    rw [w64 ((k : Int) - 1) (by omega)]
    exact ev_neg (by omega) (ev_pos (by omega) h)
  | succ j ih =>
    intro s hj hs h
    have e : ((j + 1 : Nat) : Int) - 1 = (j : Int) := by omega
    rw [e]
    refine ev_unfold (fun k => rfl) ?_
    simp only [impl_SuitsText.l1]
    have h1 := letter_size rankLetters (j : Int) (by omega) (by rw [rankLetters_size]; omega)
    have e1 : (⟨#[50, 51, 52, 53, 54, 55, 56, 57, 84, 74, 81, 75, 65]⟩ : ByteArray) = rankLetters := rfl
    have el : rankLetters.extract ((j : Int)).toNat ((j : Int) + 1).toNat = letter rankLetters (j : Int) := rfl
    rw [e1, w64 ((k : Int) * 13) (by omega), w64 ((k : Int) * 13 + (j : Int)) (by omega), w64 ((j : Int) - 1) (by omega), w64 ((j : Int) + 1) (by omega), el]
    refine ev_pos (by omega) (Ev.bind (impl_HasCard_ev l _ hl) (ev_ite (fun h2 => ?_) (fun h2 => ?_)))
    · refine ev_pos (by omega) (ev_pos (by omega) (ev_pos (by omega) (ev_pos (by rw [h1]; omega) (ih _ (by omega) (by rw [ByteArray.size_append, h1]; omega) ?_))))
      unfold rowF at h
      rw [if_pos h2] at h
      exact h
    · refine ih _ (by omega) (by omega) ?_
      unfold rowF at h
      rw [if_neg h2] at h
      exact h
theorem impl_round (l : List Int) (hl : l.length ≤ 1048576000) (k : Nat) (hk : k < 4) {R : ByteArray} (xs : List ByteArray) (hx : xs.length ≤ 10)
    (h : Ev (fun n => impl_SuitsText.l0 n l (xs ++ [suitRow l k]) ((k : Int) - 1)) R) : Ev (fun n => impl_SuitsText.l0 n l xs (k : Int)) R := by
  have e1 : (⟨#[99, 100, 104, 115]⟩ : ByteArray) = suitLetters := rfl
  have hz := letter_size suitLetters (k : Int) (by omega) (by rw [suitLetters_size]; omega)
  have el : suitLetters.extract ((k : Int)).toNat ((k : Int) + 1).toNat = letter suitLetters (k : Int) := rfl
  refine ev_unfold (fun k => rfl) ?_
  simp only [impl_SuitsText.l0]
  rw [e1, w64 ((k : Int) + 1) (by omega), el]
  refine ev_pos (by omega) (ev_pos (by omega) (ev_pos (by omega) (ev_pos (by omega) (ev_pos (by rw [hz]; omega) ?_))))
  have hc : (⟨#[58]⟩ : ByteArray) = col1 := rfl
  have hcs : col1.size = 1 := rfl
  rw [hc]
  exact impl_inner l hl k hk xs hx (R := R) 13 (letter suitLetters (k : Int) ++ col1) (Nat.le_refl _) (by rw [ByteArray.size_append, hz, hcs]; omega) h
def suitsText (l : List Int) : ByteArray := if isHand l = true then ((((⟨#[]⟩ ++ suitRow l 3) ++ sp1) ++ suitRow l 2) ++ sp1 ++ suitRow l 1) ++ sp1 ++ suitRow l 0 else ⟨#[]⟩
theorem spec_SuitsText_ev (l : List Int) (hl : l.length ≤ 1048576000) : Ev (fun k => spec_SuitsText.f k l) (suitsText l) := by
  simp only [spec_SuitsText.f]
  refine Ev.bind (spec_IsHand_ev l hl) ?_
  unfold suitsText
  refine ev_ite (fun h => ?_) (fun h => ?_)
  · rw [if_pos h]
    have z3 := suitRow_size l 3 (by omega)
    have z2 := suitRow_size l 2 (by omega)
    have z1 := suitRow_size l 1 (by omega)
    have zs : sp1.size = 1 := rfl
    have z0 : (⟨#[]⟩ : ByteArray).size = 0 := rfl
    refine spec_round l hl 3 (by omega) _ (by rw [z0]; omega) ?_
    rw [if_pos (by omega)]
    refine spec_round l hl 2 (by omega) _ (by simp only [ByteArray.size_append, z0, zs]; omega) ?_
    rw [if_pos (by omega)]
    refine spec_round l hl 1 (by omega) _ (by simp only [ByteArray.size_append, z0, zs]; omega) ?_
    rw [if_pos (by omega)]
    refine spec_round l hl 0 (by omega) _ (by simp only [ByteArray.size_append, z0, zs]; omega) ?_
    rw [if_neg (by omega)]
    refine ev_unfold (fun k => rfl) ?_
    simp only [spec_SuitsText.l0]
    exact ev_neg (by omega) (Ev.now _)
  · rw [if_neg h]; exact Ev.now _
theorem impl_SuitsText_ev (l : List Int) (hl : l.length ≤ 1048576000) : Ev (fun k => impl_SuitsText.f k l) (suitsText l) := by
  simp only [impl_SuitsText.f]
  refine Ev.bind (impl_IsHand_ev l hl) ?_
  unfold suitsText
  refine ev_ite (fun h => ?_) (fun h => ?_)
  · rw [if_pos h]
    have z3 := suitRow_size l 3 (by omega)
    have z2 := suitRow_size l 2 (by omega)
    have z1 := suitRow_size l 1 (by omega)
    have z0 := suitRow_size l 0 (by omega)
    refine impl_round l hl 3 (by omega) _ (by simp) (impl_round l hl 2 (by omega) _ (by simp) (impl_round l hl 1 (by omega) _ (by simp) (impl_round l hl 0 (by omega) _ (by simp) ?_)))
    refine ev_unfold (fun k => rfl) ?_
    simp only [impl_SuitsText.l0]
    refine ev_neg (by omega) ?_
    have hj : ∀ a b c d : ByteArray, (⟨(Go.Lib.join ([a, b, c, d].map (fun z => z.data.toList)) (⟨#[32]⟩ : ByteArray).data.toList).toArray⟩ : ByteArray) = ((((⟨#[]⟩ ++ a) ++ sp1) ++ b) ++ sp1 ++ c) ++ sp1 ++ d := by
      intro a b c d
      apply ByteArray.ext
      apply Array.ext'
      simp [Go.Lib.join, List.intercalate, ByteArray.data_append, sp1]
    have hlen : ∀ a b c d : ByteArray, a.size ≤ 15 → b.size ≤ 15 → c.size ≤ 15 → d.size ≤ 15 → (Go.Lib.join ([a, b, c, d].map (fun z => z.data.toList)) (⟨#[32]⟩ : ByteArray).data.toList).length ≤ 140737488355328 := by
      intro a b c d ha hb hc hd
      have e : ((⟨(Go.Lib.join ([a, b, c, d].map (fun z => z.data.toList)) (⟨#[32]⟩ : ByteArray).data.toList).toArray⟩ : ByteArray)).size = (Go.Lib.join ([a, b, c, d].map (fun z => z.data.toList)) (⟨#[32]⟩ : ByteArray).data.toList).length := List.size_toArray
      rw [← e, hj]
      have zs : sp1.size = 1 := rfl
      have ze : (⟨#[]⟩ : ByteArray).size = 0 := rfl
      simp only [ByteArray.size_append, zs, ze]
      omega
    have hJ : strings_Join.f [suitRow l 3, suitRow l 2, suitRow l 1, suitRow l 0] ⟨#[32]⟩ = some (((((⟨#[]⟩ ++ suitRow l 3) ++ sp1) ++ suitRow l 2) ++ sp1 ++ suitRow l 1) ++ sp1 ++ suitRow l 0) := by
      have g := hlen _ _ _ _ z3 z2 z1 z0
      have g2 := hj (suitRow l 3) (suitRow l 2) (suitRow l 1) (suitRow l 0)
      generalize suitRow l 3 = a at g g2 ⊢
      generalize suitRow l 2 = b at g g2 ⊢
      generalize suitRow l 1 = c at g g2 ⊢
      generalize suitRow l 0 = d at g g2 ⊢
      unfold strings_Join.f
      have g3 : [a, b, c, d].length ≤ 140737488355328 := by
        have : [a, b, c, d].length = 4 := rfl
        omega
      rw [if_pos g, if_pos g3, g2]
    simp only [List.nil_append, List.cons_append]
    rw [hJ]
    exact Ev.now _
  · rw [if_neg h]; exact Ev.now _
theorem FnExactSuitsText : laws_FnExactSuitsText.Pure := by
  intro l _ _ _
  refine Ev.rounds ?_
  simp only [laws_FnExactSuitsText.f]
  refine ev_ite (fun _ => Ev.now _) (fun h => ?_)
  have hl : l.length ≤ 1048576000 := by omega
  refine Ev.bind (laws_toIntS_ev l hl) (Ev.bind (spec_SuitsText_ev l hl) (Ev.bind (laws_toIntS_ev l hl) (Ev.bind (impl_SuitsText_ev l hl) (ev_pos rfl ?_))))
  exact Ev.bind (laws_toIntS_ev l hl) (Ev.bind (laws_eqIntS_ev l l (by omega)) (ev_pos (by simp) (Ev.now _)))

end Go.Proofs.Ytcegnlconafikaa.Pure
