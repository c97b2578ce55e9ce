/- Deals of tricks as plain functions. No condition. -/
import Derived.Test.YtecjbogconeilaaHands
import Derived.Test.YtecjbogconeilaaSheets
import Derived.Test.YtecjbogconeilaaMarks
import Derived.Test.YtecjbogconeilaaDeal
namespace Go.Proofs.Ytecjbogconeilaa.Lib
open Go.RowKit Go.Proofs.YtecjbogconeilaaW.PrintWords Go.Proofs.YtecjbogconeilaaW.PrintLast Go.Proofs.YtecjbogconeilaaW.PrintMore
set_option linter.unusedVariables false
set_option linter.unusedSimpArgs false

/-- A call behind the making of a box: the world gets a name. -/
theorem boxed_calls {P : Program} {f : FuncId} {args : Array Value} {w : World} {o : Obj} {Q : Ending → World → Prop} (h : ∀ W : World, W.heap[w.heap.size]? = some o → Below w.heap.size w W → w.heap.size < W.heap.size → Calls P f args W Q) : Calls P f args (w.alloc o) Q :=
  h _ (by simpa using heap_alloc_new w o) (below_alloc (Below.refl _ _) o) (by simp)
/-- From i on below n the test holds. -/
def allFrom (f : Nat → Bool) (n i : Nat) : Bool := (List.range' i (n - i)).all f
theorem allFrom_end (f : Nat → Bool) (n : Nat) : allFrom f n n = true := by unfold allFrom; rw [Nat.sub_self]; rfl
theorem allFrom_step (f : Nat → Bool) {n i : Nat} (h : i < n) : allFrom f n i = (f i && allFrom f n (i + 1)) := by
  unfold allFrom
  rw [show n - i = (n - (i + 1)) + 1 by omega, List.range'_succ, List.all_cons]
theorem allFrom_iff (f : Nat → Bool) (n : Nat) : allFrom f n 0 = true ↔ ∀ i, i < n → f i = true := by
  unfold allFrom
  rw [List.all_eq_true]
  constructor
  · intro h i hi; exact h i (List.mem_range'.2 ⟨i, by omega, by omega⟩)
  · intro h i hi; obtain ⟨j, h1, h2⟩ := List.mem_range'.1 hi; exact h i (by omega)
/-- The sum of what was won, each held between 0 and 1000. -/
def capSum (s : Int) (l : List Int) : Int := l.foldl (fun a x => wrap64 (a + max 0 (min 1000 x))) s
theorem capSum_le : ∀ (l : List Int) (s : Int), 0 ≤ s → s + 1000 * (l.length : Int) ≤ 1000000 → s ≤ capSum s l ∧ ∀ x ∈ l, s + max 0 (min 1000 x) ≤ capSum s l
  | [], s, h0, h1 => ⟨Int.le_refl _, fun x hx => by cases hx⟩
  | y :: r, s, h0, h1 => by
    rw [List.length_cons] at h1
    have e : wrap64 (s + max 0 (min 1000 y)) = s + max 0 (min 1000 y) := w64 _ (by omega)
    have ih := capSum_le r (s + max 0 (min 1000 y)) (by omega) (by omega)
    unfold capSum
    rw [List.foldl_cons, e]
    refine ⟨Int.le_trans (by omega) ih.1, fun x hx => ?_⟩
    rcases List.mem_cons.1 hx with rfl | hx
    · exact ih.1
    · exact Int.le_trans (by omega) (ih.2 x hx)
theorem capSum_eq : ∀ (l : List Int) (s : Int), (∀ x ∈ l, 0 ≤ x ∧ x ≤ 26) → wsum s l = capSum s l
  | [], s, _ => rfl
  | y :: r, s, h => by
    have hy := h y (by simp)
    have ih := capSum_eq r (wrap64 (s + y)) (fun x hx => h x (by simp [hx]))
    unfold wsum capSum at ih ⊢
    rw [List.foldl_cons, List.foldl_cons, show max 0 (min 1000 y) = y by omega]
    exact ih
def cardsAt (h : List (List Int)) (i : Nat) : Int := ((lineAt h (i : Int)).length : Int)
def wantAt (a1 a6 n tl s : Int) (i : Nat) : Int := if Int.tmod (wrap64 ((wrap64 ((i : Int) - a1)) + n)) n < tl then wrap64 ((wrap64 (a6 - s)) - 1) else wrap64 (a6 - s)
def dealHead (n wl pl a1 a2 a6 tl : Int) : Bool := inR n 2 4 && (decide (wl = n) && (decide (pl = n) && (inR a1 0 (n - 1) && (inR a2 (-1) 3 && (inR a6 0 26 && !decide (tl ≥ n))))))
def dealRow12 (h : List (List Int)) (a1 a6 tl s : Int) (w p : List Int) (i : Nat) : Bool := (!(decide (rd w i < 0)) && !(decide (rd p i < 0))) && decide (cardsAt h i = wantAt a1 a6 h.length tl s i)
def isDeal (h : List (List Int)) (a1 a2 : Int) (t w p : List Int) (a6 : Int) : Bool :=
  dealHead h.length w.length p.length a1 a2 a6 t.length && (isHand (h ++ [t]).flatten && allFrom (dealRow12 h a1 a6 t.length (capSum 0 w) w p) h.length 0)
def isDealI (h : List (List Int)) (a1 a2 : Int) (t w p : List Int) (a6 : Int) : Bool :=
  (inR h.length 2 4 && (decide ((w.length : Int) = h.length) && (decide ((p.length : Int) = h.length) && w.all fun x => inR x 0 26))) && ((p.all fun x => !decide (x < 0)) && ((isHand (h ++ [t]).flatten && (inR a1 0 (h.length - 1) && (inR a2 (-1) 3 && (inR a6 0 26 && !decide ((t.length : Int) ≥ h.length))))) && allFrom (fun i => decide (cardsAt h i = wantAt a1 a6 h.length t.length (wsum 0 w) i)) h.length 0))
theorem isDeal_iff (h : List (List Int)) (a1 a2 : Int) (t w p : List Int) (a6 : Int) : isDealI h a1 a2 t w p a6 = isDeal h a1 a2 t w p a6 := by
  rw [Bool.eq_iff_iff]
  unfold isDealI isDeal dealHead
  simp only [Bool.and_eq_true, inR_iff, decide_eq_true_eq, Bool.not_eq_true', decide_eq_false_iff_not, List.all_eq_true, allFrom_iff]
  constructor
  · rintro ⟨⟨h1, h2, h3, h4⟩, h5, ⟨h6, h7, h8, h9, h10⟩, h11⟩
    refine ⟨⟨h1, h2, h3, h7, h8, h9, h10⟩, h6, fun i hi => ?_⟩
    have e := h11 i hi
    rw [capSum_eq w 0 h4] at e
    have hw : rd w (i : Int) = w[i]'(by omega) := rd_at w i (by omega)
    have hp : rd p (i : Int) = p[i]'(by omega) := rd_at p i (by omega)
    have h12 := h4 _ (List.getElem_mem (show i < w.length by omega))
    have h13 := h5 _ (List.getElem_mem (show i < p.length by omega))
    unfold dealRow12
    rw [hw, hp, decide_eq_false (by omega), decide_eq_false (by omega), decide_eq_true e]
    rfl
  · rintro ⟨⟨h1, h2, h3, h7, h8, h9, h10⟩, h6, h11⟩
    have hs := capSum_le w 0 (by omega) (by omega)
    have h0 := h11 0 (by omega)
    unfold dealRow12 at h0
    rw [Bool.and_eq_true, decide_eq_true_eq] at h0
    have hl : 0 ≤ wantAt a1 a6 h.length t.length (capSum 0 w) 0 := by rw [← h0.2]; exact Int.natCast_nonneg _
    have h26 : ∀ x ∈ w, x ≤ 26 := by
      intro x hx
      have h12 := hs.2 x hx
      have hb : capSum 0 w ≤ 1000000 := by
        have : ∀ (l : List Int) (s : Int), 0 ≤ s → s + 1000 * (l.length : Int) ≤ 1000000 → capSum s l ≤ s + 1000 * (l.length : Int) := by
          intro l
          induction l with
          | nil => intro s _ _; simp [capSum]
          | cons y r ih =>
            intro s h0 h1
            rw [List.length_cons] at h1 ⊢
            have e : wrap64 (s + max 0 (min 1000 y)) = s + max 0 (min 1000 y) := w64 _ (by omega)
            have := ih (s + max 0 (min 1000 y)) (by omega) (by omega)
            unfold capSum at this ⊢
            rw [List.foldl_cons, e]
            omega
        have := this w 0 (by omega) (by omega)
        omega
      have h13 := hs.1
      unfold wantAt at hl
      rw [w64 (a6 - capSum 0 w) (by omega)] at hl
      split at hl
      · rw [w64 _ (by omega)] at hl; omega
      · omega
    have hx0 : ∀ i (hi : i < h.length), ¬ w[i]'(by omega) < 0 ∧ ¬ p[i]'(by omega) < 0 := by
      intro i hi
      have e := h11 i hi
      unfold dealRow12 at e
      rw [rd_at w i (by omega), rd_at p i (by omega)] at e
      simp only [Bool.and_eq_true, Bool.not_eq_true', decide_eq_false_iff_not] at e
      exact e.1
    have hw0 : ∀ x ∈ w, 0 ≤ x ∧ x ≤ 26 := fun x hx => ⟨by
      obtain ⟨i, hi, rfl⟩ := List.getElem_of_mem hx
      have := (hx0 i (by omega)).1
      omega, h26 x hx⟩
    refine ⟨⟨h1, h2, h3, hw0⟩, fun x hx => ?_, ⟨h6, h7, h8, h9, h10⟩, fun i hi => ?_⟩
    · obtain ⟨i, hi, rfl⟩ := List.getElem_of_mem hx
      exact (hx0 i (by omega)).2
    · have e := h11 i hi
      unfold dealRow12 at e
      rw [Bool.and_eq_true, decide_eq_true_eq] at e
      rw [capSum_eq w 0 hw0]
      exact e.2
/-- What a new deal asks of its hands. -/
def newOk (h : List (List Int)) (a1 a2 : Int) : Bool :=
  inR h.length 2 4 && (isHand h.flatten && (inR a1 0 ((h.length : Int) - 1) && (inR a2 (-1) 3 && h.all fun r => decide (r.length = (lineAt h 0).length))))
def newDeal (h : List (List Int)) (a1 a2 : Int) : List (List Int) × Int × Int × List Int × List Int × List Int × Int × Bool :=
  if newOk h a1 a2 = true then (h, a1, a2, [], List.replicate h.length 0, List.replicate h.length 0, ((lineAt h 0).length : Int), true) else ([], 0, 0, [], [], [], 0, false)
theorem totalLen_same : ∀ (l : List (List Int)) (b : Nat), (∀ r ∈ l, r.length = b) → totalLen l = b * l.length
  | [], b, _ => by simp [totalLen]
  | r :: l, b, h => by
    have h1 := h r (by simp)
    have h2 := totalLen_same l b (fun x hx => h x (by simp [hx]))
    rw [totalLen_cons, List.length_cons, Nat.mul_succ]
    omega
theorem flatten_total (h : List (List Int)) : h.flatten.length = totalLen h := by rw [List.length_flatten]; rfl
theorem capSum_zero : ∀ (n : Nat), capSum 0 (List.replicate n 0) = 0
  | 0 => rfl
  | n + 1 => by
    have ih := capSum_zero n
    unfold capSum at ih ⊢
    rw [List.replicate_succ, List.foldl_cons, show wrap64 (0 + max 0 (min 1000 0)) = 0 by rw [w64 _ (by omega)]; omega]
    exact ih
theorem rd_zeros (n i : Nat) : rd (List.replicate n 0) (i : Int) = 0 := by
  unfold rd
  rw [Int.toNat_natCast, List.getD_eq_getElem?_getD, List.getElem?_replicate]
  split <;> rfl
theorem hand_le {l : List Int} (h : isHand l = true) : l.length ≤ 52 := by
  have hl := (isHand_iff l).1 h
  have := pigeon l ((List.range 52).map fun (j : Nat) => (j : Int)) hl.2 (fun x hx => by
    have h2 := (isCard_iff x).1 (hl.1 x hx)
    exact List.mem_map.2 ⟨x.toNat, List.mem_range.2 (by omega), by omega⟩)
  simpa using this
theorem newOk_iff (h : List (List Int)) (a1 a2 : Int) (hn : 0 < h.length) (hr : (lineAt h 0).length ≤ 1048576000) :
    isDeal h a1 a2 [] (List.replicate h.length 0) (List.replicate h.length 0) ((lineAt h 0).length : Int) = newOk h a1 a2 := by
  have hfl : (h ++ [[]]).flatten = h.flatten := by simp
  have hat : ∀ i (hi : i < h.length), cardsAt h i = (h[i].length : Int) := by
    intro i hi
    unfold cardsAt lineAt
    rw [Int.toNat_natCast, List.getD_eq_getElem?_getD, List.getElem?_eq_getElem hi]; rfl
  have hwant : ∀ i (hi : i < h.length), 0 ≤ a1 ∧ a1 ≤ (h.length : Int) - 1 → h.length ≤ 4 → wantAt a1 ((lineAt h 0).length : Int) h.length 0 0 i = ((lineAt h 0).length : Int) := by
    intro i hi ha h4
    unfold wantAt
    rw [w64 ((i : Int) - a1) (by omega), w64 ((i : Int) - a1 + h.length) (by omega), Int.tmod_eq_emod_of_nonneg (by omega), if_neg (by have := Int.emod_nonneg ((i : Int) - a1 + h.length) (show (h.length : Int) ≠ 0 by omega); omega), w64 _ (by omega)]
    omega
  rw [Bool.eq_iff_iff]
  unfold isDeal dealHead newOk
  rw [hfl, List.length_replicate, capSum_zero]
  simp only [Bool.and_eq_true, inR_iff, decide_eq_true_eq, Bool.not_eq_true', decide_eq_false_iff_not, List.all_eq_true, allFrom_iff, List.length_nil]
  constructor
  · rintro ⟨⟨h1, _, _, h4, h5, h6, _⟩, h7, h8⟩
    refine ⟨h1, h7, h4, h5, fun r hr => ?_⟩
    obtain ⟨i, hi, rfl⟩ := List.getElem_of_mem hr
    have e := h8 i hi
    unfold dealRow12 at e
    rw [Bool.and_eq_true, decide_eq_true_eq, hat i hi] at e
    have e2 := hwant i hi h4 (by omega)
    have e3 := e.2
    rw [show (((0 : Nat) : Int)) = 0 from rfl, e2] at e3
    omega
  · rintro ⟨h1, h7, h4, h5, h8⟩
    have ht := totalLen_same h _ h8
    have h52 := hand_le h7
    rw [flatten_total, ht] at h52
    have h26 : (lineAt h 0).length ≤ 26 := by
      have : (lineAt h 0).length * 2 ≤ (lineAt h 0).length * h.length := Nat.mul_le_mul_left _ (by omega)
      omega
    refine ⟨⟨h1, trivial, trivial, h4, h5, by omega, by omega⟩, h7, fun i hi => ?_⟩
    unfold dealRow12
    rw [rd_zeros, hat i hi, show (((0 : Nat) : Int)) = 0 from rfl, hwant i hi h4 (by omega), h8 _ (List.getElem_mem hi)]
    simp
end Go.Proofs.Ytecjbogconeilaa.Lib
