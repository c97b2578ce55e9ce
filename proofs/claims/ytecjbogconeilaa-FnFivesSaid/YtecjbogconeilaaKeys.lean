/- What the keys of five cards are good for: an order that does not look at the cards' places, and the best five of a hand as its greatest. No condition. -/
import Derived.Test.YtecjbogconeilaaFive
import Derived.Test.YtecjbogconeilaaDeal
namespace Go.Proofs.Ytecjbogconeilaa.Lib
open Go.RowKit Go.Proofs.YtecjbogconeilaaW.PrintWords Go.Proofs.YtecjbogconeilaaW.PrintLast Go.Proofs.YtecjbogconeilaaW.PrintMore
set_option linter.unusedVariables false
set_option linter.unusedSimpArgs false

theorem cmpL_self : ∀ a : List Int, cmpL a a = 0
  | [] => rfl
  | x :: r => by
    unfold cmpL
    rw [if_neg (by omega), if_neg (by omega)]
    exact cmpL_self r
theorem cmpL_neg : ∀ a b : List Int, cmpL b a = -cmpL a b
  | [], [] => rfl
  | [], _ :: _ => rfl
  | _ :: _, [] => rfl
  | x :: r, y :: q => by
    unfold cmpL
    have := cmpL_neg r q
    split <;> split <;> first | omega | (split <;> omega) | (rw [this]; split <;> omega)
theorem cmpL_range : ∀ a b : List Int, -1 ≤ cmpL a b ∧ cmpL a b ≤ 1
  | [], [] => by simp [cmpL]
  | [], _ :: _ => by simp [cmpL]
  | _ :: _, [] => by simp [cmpL]
  | x :: r, y :: q => by
    have := cmpL_range r q
    unfold cmpL
    split
    · omega
    · split <;> omega
theorem cmpL_cons (x y : Int) (r q : List Int) : cmpL (x :: r) (y :: q) = if x > y then 1 else if x < y then -1 else cmpL r q := by
  conv => lhs; unfold cmpL
theorem cmpL_trans : ∀ a b c : List Int, a.length = b.length → b.length = c.length → cmpL a b ≤ 0 → cmpL b c ≤ 0 → cmpL a c ≤ 0
  | [], [], [], _, _, _, _ => by simp [cmpL]
  | [], [], _ :: _, _, h, _, _ => by simp at h
  | [], _ :: _, _, h, _, _, _ => by simp at h
  | _ :: _, [], _, h, _, _, _ => by simp at h
  | _ :: _, _ :: _, [], _, h, _, _ => by simp at h
  | x :: a, y :: b, z :: c, h1, h2, g1, g2 => by
    have ih := cmpL_trans a b c (by simpa using h1) (by simpa using h2)
    rw [cmpL_cons] at g1 g2 ⊢
    by_cases c1 : x > y
    · rw [if_pos c1] at g1; omega
    rw [if_neg c1] at g1
    by_cases c2 : y > z
    · rw [if_pos c2] at g2; omega
    rw [if_neg c2] at g2
    rw [if_neg (by omega)]
    by_cases c3 : x < z
    · rw [if_pos c3]; omega
    rw [if_neg c3]
    rw [if_neg (by omega)] at g1 g2
    exact ih g1 g2
def lenK (k : Int) : Nat := if k = 8 then 1 else if k = 7 then 2 else if k = 6 then 2 else if k = 5 then 5 else if k = 4 then 1 else if k = 3 then 3 else if k = 2 then 3 else if k = 1 then 4 else 5
def Five (l : List Int) : Prop := isHand l = true ∧ l.length = 5
theorem cnt_at {l : List Int} (h : isHand l = true) (i : Nat) : (cnt l).getD i 0 = ((l.filter fun c => decide (rankOf c = (i : Int))).length : Int) := by
  have e := cntF_getD i l (List.replicate 13 0) ((isHand_iff l).1 h).1 (by simp)
  have e3 : (List.replicate 13 (0 : Int)).getD i 0 = 0 := by
    rw [List.getD_eq_getElem?_getD, List.getElem?_replicate]; split <;> rfl
  unfold cnt
  rw [e, e3]
  omega
theorem flush_ones {l : List Int} (h : isHand l = true) (hf : flushOf l = true) : ∀ x ∈ cnt l, x ≤ 1 := by
  intro x hx
  obtain ⟨i, hi, rfl⟩ := List.getElem_of_mem hx
  have hh := (isHand_iff l).1 h
  have e2 : (cnt l)[i] = (cnt l).getD i 0 := by simp [List.getD_eq_getElem?_getD, hi]
  rw [e2, cnt_at h]
  unfold flushOf at hf
  rw [List.all_eq_true] at hf
  have h3 := nodup_sub (l.filter fun c => decide (rankOf c = (i : Int))) [suitOf (rd l 0) * 13 + (i : Int)] (List.Nodup.sublist List.filter_sublist hh.2) (by
    intro y hy
    rw [List.mem_filter] at hy
    have h1 := (isCard_iff y).1 (hh.1 y hy.1)
    have h2 : rankOf y = (i : Int) := by simpa using hy.2
    have h4 := of_decide_eq_true (hf y hy.1)
    unfold rankOf at h2
    rw [if_pos (hh.1 y hy.1)] at h2
    rw [List.mem_singleton, ← h4]
    unfold suitOf
    rw [if_pos (hh.1 y hy.1)]
    omega)
  simp only [List.length_cons, List.length_nil] at h3
  omega
theorem has_zero {n : List Int} {c : Int} (h : ∀ x ∈ n, x ≠ c) : hasF n c = 0 := by
  unfold hasF
  have : (n.filter fun x => decide (x = c)) = [] := by
    rw [List.filter_eq_nil_iff]
    intro x hx
    simpa using h x hx
  rw [this]; rfl
theorem rkOf_len {n : List Int} (hn : n.length = 13) : ((rkOf n).length : Int) = hasF n 4 + hasF n 3 + hasF n 2 + hasF n 1 := by
  have e : ∀ c, ((rkDown n c 13).length : Int) = hasF n c := by
    intro c
    rw [rkDown_count n c 13 (by omega), List.take_of_length_le (by omega)]
    rfl
  unfold rkOf
  simp only [List.length_append, Int.natCast_add]
  rw [e, e, e, e]
  omega
theorem key_good {l : List Int} (h : Five l) : ∃ r, handKey l = kindOf l :: r ∧ r.length = lenK (kindOf l) ∧ 0 ≤ kindOf l ∧ kindOf l ≤ 8 := by
  obtain ⟨hh, h5⟩ := h
  have ok := cnt_ok hh h5
  have hk : kindOf l = kindN (cnt l) (flushOf l) := by
    unfold kindOf
    rw [hh, h5]
    rfl
  have h0 := ok.2.2.2.2 (flushOf l)
  have hst := ok.2.2.2.1 (flushOf l)
  have hb := cnt_bound hh
  have hsum : (cnt l).sum = 5 := by
    unfold cnt
    rw [cntF_sum l _ ((isHand_iff l).1 hh).1 (by simp), h5]
    rfl
  have hp := parts (cnt l) hb
  rw [hsum] at hp
  have p4 : 0 ≤ hasF (cnt l) 4 := Int.natCast_nonneg _
  have p3 : 0 ≤ hasF (cnt l) 3 := Int.natCast_nonneg _
  have p2 : 0 ≤ hasF (cnt l) 2 := Int.natCast_nonneg _
  have p1 : 0 ≤ hasF (cnt l) 1 := Int.natCast_nonneg _
  have hlen := rkOf_len (cnt_length l)
  have hle : kindN (cnt l) (flushOf l) ≤ 8 := by
    unfold kindN kindS
    repeat' split
    all_goals omega
  unfold handKey
  rw [hk, if_neg (by omega)]
  by_cases hs : strF (cnt l) 10 ≥ 0
  · rw [if_pos hs]
    refine ⟨_, rfl, ?_, h0, hle⟩
    rcases hst.2 hs with e | e <;> rw [e] <;> rfl
  · rw [if_neg hs]
    refine ⟨_, rfl, ?_, h0, hle⟩
    have hfl : flushOf l = true → hasF (cnt l) 4 = 0 ∧ hasF (cnt l) 3 = 0 ∧ hasF (cnt l) 2 = 0 := by
      intro hf
      have := flush_ones hh hf
      exact ⟨has_zero (fun x hx => by have := this x hx; omega), has_zero (fun x hx => by have := this x hx; omega), has_zero (fun x hx => by have := this x hx; omega)⟩
    have hK2 : kindN (cnt l) (flushOf l) = if hasF (cnt l) 4 = 1 then 7 else if hasF (cnt l) 3 = 1 ∧ hasF (cnt l) 2 = 1 then 6 else if flushOf l = true then 5 else if hasF (cnt l) 3 = 1 then 3 else if hasF (cnt l) 2 = 2 then 2 else if hasF (cnt l) 2 = 1 then 1 else 0 := by
      have hs' : decide (strF (cnt l) 10 ≥ 0) = false := decide_eq_false hs
      unfold kindN kindS
      simp only [hs', Bool.false_and, Bool.false_eq_true, if_false, Bool.and_eq_true, decide_eq_true_eq, hs, false_and]
    rw [hK2]
    clear hK2 hst h0 hle hk ok hb hsum
    generalize hasF (cnt l) 4 = a at hp p4 hlen hfl ⊢
    generalize hasF (cnt l) 3 = b at hp p3 hlen hfl ⊢
    generalize hasF (cnt l) 2 = c at hp p2 hlen hfl ⊢
    generalize hasF (cnt l) 1 = d at hp p1 hlen ⊢
    by_cases c1 : a = 1
    · rw [if_pos c1]; show _ = 2; omega
    rw [if_neg c1]
    by_cases c2 : b = 1 ∧ c = 1
    · rw [if_pos c2]; show _ = 2; omega
    rw [if_neg c2]
    by_cases c3 : flushOf l = true
    · have := hfl c3
      rw [if_pos c3]; show _ = 5; omega
    rw [if_neg c3]
    by_cases c4 : b = 1
    · rw [if_pos c4]; show _ = 3; omega
    rw [if_neg c4]
    by_cases c5 : c = 2
    · rw [if_pos c5]; show _ = 3; omega
    rw [if_neg c5]
    by_cases c6 : c = 1
    · rw [if_pos c6]; show _ = 4; omega
    rw [if_neg c6]; show _ = 5; omega
theorem five_trans {a b c : List Int} (ha : Five a) (hb : Five b) (hc : Five c) (h1 : compareFive a b ≤ 0) (h2 : compareFive b c ≤ 0) : compareFive a c ≤ 0 := by
  obtain ⟨x, ex, lx, _, _⟩ := key_good ha
  obtain ⟨y, ey, ly, _, _⟩ := key_good hb
  obtain ⟨z, ez, lz, _, _⟩ := key_good hc
  unfold compareFive at h1 h2 ⊢
  rw [ex, ey, cmpL_cons] at h1
  rw [ey, ez, cmpL_cons] at h2
  rw [ex, ez, cmpL_cons]
  by_cases c1 : kindOf a > kindOf b
  · rw [if_pos c1] at h1; omega
  rw [if_neg c1] at h1
  by_cases c2 : kindOf b > kindOf c
  · rw [if_pos c2] at h2; omega
  rw [if_neg c2] at h2
  rw [if_neg (by omega)]
  by_cases c3 : kindOf a < kindOf c
  · rw [if_pos c3]; omega
  rw [if_neg c3]
  rw [if_neg (by omega)] at h1 h2
  have e1 : kindOf a = kindOf b := by omega
  have e2 : kindOf b = kindOf c := by omega
  exact cmpL_trans x y z (by rw [lx, ly, e1]) (by rw [ly, lz, e2]) h1 h2
theorem compare_self (a : List Int) : compareFive a a = 0 := cmpL_self _
theorem compare_neg (a b : List Int) : compareFive b a = -compareFive a b := cmpL_neg _ _
theorem isHand_perm {a b : List Int} (h : a.Perm b) : isHand a = isHand b := by
  rw [Bool.eq_iff_iff, isHand_iff, isHand_iff]
  exact ⟨fun g => ⟨fun x hx => g.1 x (h.mem_iff.2 hx), h.nodup_iff.1 g.2⟩, fun g => ⟨fun x hx => g.1 x (h.mem_iff.1 hx), h.nodup_iff.2 g.2⟩⟩
theorem flush_iff {l : List Int} (h : l ≠ []) : flushOf l = true ↔ ∀ c ∈ l, ∀ d ∈ l, suitOf c = suitOf d := by
  unfold flushOf
  rw [List.all_eq_true]
  obtain ⟨x, r, rfl⟩ := List.exists_cons_of_ne_nil h
  have e : rd (x :: r) 0 = x := rfl
  rw [e]
  constructor
  · intro g c hc d hd
    rw [of_decide_eq_true (g c hc), of_decide_eq_true (g d hd)]
  · intro g c hc
    exact decide_eq_true (g c hc x (by simp))
theorem key_perm {a b : List Int} (h : a.Perm b) (ha : Five a) : handKey a = handKey b := by
  have hb : Five b := ⟨by rw [← isHand_perm h]; exact ha.1, by rw [← h.length_eq]; exact ha.2⟩
  have hc : cnt a = cnt b := by
    refine List.ext_getElem (by rw [cnt_length, cnt_length]) (fun i h1 h2 => ?_)
    have e1 : (cnt a)[i] = (cnt a).getD i 0 := by simp [List.getD_eq_getElem?_getD, h1]
    have e2 : (cnt b)[i] = (cnt b).getD i 0 := by simp [List.getD_eq_getElem?_getD, h2]
    rw [e1, e2, cnt_at ha.1, cnt_at hb.1, (h.filter _).length_eq]
  have hf : flushOf a = flushOf b := by
    have na : a ≠ [] := fun e => by have := ha.2; rw [e] at this; simp at this
    have nb : b ≠ [] := fun e => by have := hb.2; rw [e] at this; simp at this
    rw [Bool.eq_iff_iff, flush_iff na, flush_iff nb]
    exact ⟨fun g c hc d hd => g c (h.mem_iff.2 hc) d (h.mem_iff.2 hd), fun g c hc d hd => g c (h.mem_iff.1 hc) d (h.mem_iff.1 hd)⟩
  have hk : kindOf a = kindOf b := by
    unfold kindOf
    rw [isHand_perm h, h.length_eq, hc, hf]
  unfold handKey
  rw [hk, hc]
def pickB (b : Nat → Bool) : Nat → List Int → List Int
  | _, [] => []
  | i, c :: r => if b i = true then c :: pickB b (i + 1) r else pickB b (i + 1) r
theorem pickF_B (m : Int) : ∀ (l : List Int) (i : Nat), pickF m i l = pickB (bitOf m) i l := by
  intro l
  induction l with
  | nil => intro i; rfl
  | cons c r ih => intro i; unfold pickF pickB; rw [ih]
theorem pickB_congr (b b' : Nat → Bool) : ∀ (l : List Int) (i : Nat), (∀ k, i ≤ k → k < i + l.length → b k = b' k) → pickB b i l = pickB b' i l := by
  intro l
  induction l with
  | nil => intro i _; rfl
  | cons c r ih =>
    intro i h
    unfold pickB
    rw [h i (Nat.le_refl _) (by simp), ih (i + 1) (fun k h1 h2 => h k (by omega) (by simp; omega))]
theorem pickB_sub (b : Nat → Bool) : ∀ (l : List Int) (i : Nat), (pickB b i l).Sublist l := by
  intro l
  induction l with
  | nil => intro i; exact List.Sublist.slnil
  | cons c r ih =>
    intro i
    unfold pickB
    split
    · exact (ih (i + 1)).cons_cons c
    · exact (ih (i + 1)).cons c
theorem sub_pick {s l : List Int} (h : s.Sublist l) : ∀ i : Nat, ∃ b : Nat → Bool, pickB b i l = s := by
  induction h with
  | slnil => intro i; exact ⟨fun _ => false, rfl⟩
  | @cons s l a h ih =>
    intro i
    obtain ⟨b, hb⟩ := ih (i + 1)
    refine ⟨fun k => if k = i then false else b k, ?_⟩
    unfold pickB
    rw [if_neg (by simp), ← hb]
    exact pickB_congr _ _ l (i + 1) (fun k h1 h2 => by rw [if_neg (by omega)])
  | @cons_cons s l a h ih =>
    intro i
    obtain ⟨b, hb⟩ := ih (i + 1)
    refine ⟨fun k => if k = i then true else b k, ?_⟩
    unfold pickB
    rw [if_pos (by simp), ← hb]
    congr 1
    exact pickB_congr _ _ l (i + 1) (fun k h1 h2 => by rw [if_neg (by omega)])
def mval (b0 b1 b2 b3 b4 b5 b6 : Bool) : Nat := (if b0 then 1 else 0) + (if b1 then 2 else 0) + (if b2 then 4 else 0) + (if b3 then 8 else 0) + (if b4 then 16 else 0) + (if b5 then 32 else 0) + (if b6 then 64 else 0)
theorem mval_bits : ∀ b0 b1 b2 b3 b4 b5 b6 : Bool, bitOf (mval b0 b1 b2 b3 b4 b5 b6 : Int) 0 = b0 ∧ bitOf (mval b0 b1 b2 b3 b4 b5 b6 : Int) 1 = b1 ∧ bitOf (mval b0 b1 b2 b3 b4 b5 b6 : Int) 2 = b2 ∧ bitOf (mval b0 b1 b2 b3 b4 b5 b6 : Int) 3 = b3 ∧ bitOf (mval b0 b1 b2 b3 b4 b5 b6 : Int) 4 = b4 ∧ bitOf (mval b0 b1 b2 b3 b4 b5 b6 : Int) 5 = b5 ∧ bitOf (mval b0 b1 b2 b3 b4 b5 b6 : Int) 6 = b6 := by decide +kernel
theorem mval_lt (b0 b1 b2 b3 b4 b5 b6 : Bool) : mval b0 b1 b2 b3 b4 b5 b6 < 128 ∧ (b6 = false → mval b0 b1 b2 b3 b4 b5 b6 < 64) ∧ (b5 = false → b6 = false → mval b0 b1 b2 b3 b4 b5 b6 < 32) := by
  unfold mval
  refine ⟨?_, ?_, ?_⟩
  · repeat' split
    all_goals omega
  · rintro rfl
    repeat' split
    all_goals first | omega | contradiction
  · rintro rfl rfl
    repeat' split
    all_goals first | omega | contradiction
theorem sub_mask {s l : List Int} (h : s.Sublist l) (h5 : 5 ≤ l.length) (h7 : l.length ≤ 7) : ∃ j : Nat, j < masks l ∧ pickF (j : Int) 0 l = s := by
  obtain ⟨b, hb⟩ := sub_pick h 0
  have hm : l.length = 5 ∨ l.length = 6 ∨ l.length = 7 := by omega
  have bits := mval_bits (b 0) (b 1) (b 2) (b 3) (b 4) (decide (5 < l.length) && b 5) (decide (6 < l.length) && b 6)
  have lt := mval_lt (b 0) (b 1) (b 2) (b 3) (b 4) (decide (5 < l.length) && b 5) (decide (6 < l.length) && b 6)
  generalize mval (b 0) (b 1) (b 2) (b 3) (b 4) (decide (5 < l.length) && b 5) (decide (6 < l.length) && b 6) = v at bits lt
  refine ⟨v, ?_, ?_⟩
  · unfold masks
    rcases hm with e | e | e <;> rw [e] at lt ⊢
    · exact Nat.lt_of_lt_of_le (lt.2.2 rfl rfl) (by decide)
    · exact Nat.lt_of_lt_of_le (lt.2.1 rfl) (by decide)
    · exact Nat.lt_of_lt_of_le lt.1 (by decide)
  · rw [pickF_B, ← hb]
    refine pickB_congr _ _ l 0 (fun k _ hk => ?_)
    have hk7 : k = 0 ∨ k = 1 ∨ k = 2 ∨ k = 3 ∨ k = 4 ∨ k = 5 ∨ k = 6 := by omega
    rcases hk7 with rfl | rfl | rfl | rfl | rfl | rfl | rfl
    · exact bits.1
    · exact bits.2.1
    · exact bits.2.2.1
    · exact bits.2.2.2.1
    · exact bits.2.2.2.2.1
    · rw [bits.2.2.2.2.2.1, decide_eq_true (by omega)]; rfl
    · rw [bits.2.2.2.2.2.2, decide_eq_true (by omega)]; rfl
/-- What is picked out of a hand, and is five, is five cards. -/
theorem bestFrom_max {l : List Int} (hh : isHand l = true) : ∀ (d m : Nat) (best : List Int), (best = [] ∨ (Five best ∧ best.Sublist l)) →
    (best ≠ [] → Five (bestFrom l d m best) ∧ (bestFrom l d m best).Sublist l ∧ compareFive best (bestFrom l d m best) ≤ 0) ∧
    (∀ j, m ≤ j → j < m + d → (pickF (j : Int) 0 l).length = 5 → Five (bestFrom l d m best) ∧ (bestFrom l d m best).Sublist l ∧ compareFive (pickF (j : Int) 0 l) (bestFrom l d m best) ≤ 0) := by
  have hp : ∀ m : Nat, (pickF (m : Int) 0 l).Sublist l := fun m => by rw [pickF_B]; exact pickB_sub _ _ _
  have hv : ∀ m : Nat, (pickF (m : Int) 0 l).length = 5 → Five (pickF (m : Int) 0 l) := fun m h => by
    have := (isHand_iff l).1 hh
    exact ⟨(isHand_iff _).2 ⟨fun x hx => this.1 x ((hp m).subset hx), this.2.sublist (hp m)⟩, h⟩
  intro d
  induction d with
  | zero =>
    intro m best hb
    refine ⟨fun hn => ?_, fun j h1 h2 => absurd h2 (by omega)⟩
    rcases hb with hb | hb
    · exact absurd hb hn
    · exact ⟨hb.1, hb.2, by show compareFive best best ≤ 0; rw [compare_self]; exact Int.le_refl 0⟩
  | succ d ih =>
    intro m best hb
    have hk : (keep5 best (pickF (m : Int) 0 l) = [] ∨ (Five (keep5 best (pickF (m : Int) 0 l)) ∧ (keep5 best (pickF (m : Int) 0 l)).Sublist l)) ∧
        (best ≠ [] → keep5 best (pickF (m : Int) 0 l) ≠ [] ∧ compareFive best (keep5 best (pickF (m : Int) 0 l)) ≤ 0) ∧
        ((pickF (m : Int) 0 l).length = 5 → keep5 best (pickF (m : Int) 0 l) ≠ [] ∧ compareFive (pickF (m : Int) 0 l) (keep5 best (pickF (m : Int) 0 l)) ≤ 0) := by
      have hvm := hv m
      have hpm := hp m
      generalize pickF (m : Int) 0 l = x at hvm hpm ⊢
      unfold keep5
      by_cases c1 : x.length = 5
      · rw [if_pos c1]
        have nx : x ≠ [] := fun e => by rw [e] at c1; simp at c1
        have sx : compareFive x x ≤ 0 := by rw [compare_self]; exact Int.le_refl 0
        have ng := compare_neg x best
        by_cases c2 : best.length = 0
        · rw [if_pos c2]
          have nb : best = [] := List.length_eq_zero_iff.1 c2
          exact ⟨.inr ⟨hvm c1, hpm⟩, fun h => absurd nb h, fun _ => ⟨nx, sx⟩⟩
        · rw [if_neg c2]
          have nb : best ≠ [] := fun e => c2 (by rw [e]; rfl)
          have hb2 := hb.resolve_left nb
          have sb : compareFive best best ≤ 0 := by rw [compare_self]; exact Int.le_refl 0
          by_cases c3 : compareFive x best > 0
          · rw [if_pos c3]
            exact ⟨.inr ⟨hvm c1, hpm⟩, fun _ => ⟨nx, by omega⟩, fun _ => ⟨nx, sx⟩⟩
          · rw [if_neg c3]
            by_cases c4 : compareFive x best = 0
            · rw [if_pos c4]
              by_cases c5 : before x best = true
              · rw [if_pos c5]
                exact ⟨.inr ⟨hvm c1, hpm⟩, fun _ => ⟨nx, by omega⟩, fun _ => ⟨nx, sx⟩⟩
              · rw [if_neg c5]
                exact ⟨.inr hb2, fun _ => ⟨nb, sb⟩, fun _ => ⟨nb, by omega⟩⟩
            · rw [if_neg c4]
              exact ⟨.inr hb2, fun _ => ⟨nb, sb⟩, fun _ => ⟨nb, by omega⟩⟩
      · rw [if_neg c1]
        exact ⟨hb, fun h => ⟨h, by rw [compare_self]; exact Int.le_refl 0⟩, fun h => absurd h c1⟩
    have e : bestFrom l (d + 1) m best = bestFrom l d (m + 1) (keep5 best (pickF (m : Int) 0 l)) := rfl
    rw [e]
    obtain ⟨k1, k2, k3⟩ := hk
    obtain ⟨i1, i2⟩ := ih (m + 1) _ k1
    generalize keep5 best (pickF (m : Int) 0 l) = b' at k1 k2 k3 i1 i2 ⊢
    refine ⟨fun hn => ?_, fun j h1 h2 h3 => ?_⟩
    · obtain ⟨n', q⟩ := k2 hn
      obtain ⟨f, s, g⟩ := i1 n'
      exact ⟨f, s, five_trans (hb.resolve_left hn).1 (k1.resolve_left n').1 f q g⟩
    · by_cases hj : j = m
      · subst hj
        obtain ⟨n', q⟩ := k3 h3
        obtain ⟨f, s, g⟩ := i1 n'
        exact ⟨f, s, five_trans (hv j h3) (k1.resolve_left n').1 f q g⟩
      · exact i2 j (by omega) (by omega) h3
/-- The best five: five cards of the hand, ascending, no five of the hand above them. -/
theorem bestFive_max {l s : List Int} (hh : isHand l = true) (h5 : 5 ≤ l.length) (h7 : l.length ≤ 7) (hs : s.Sublist l) (hs5 : s.length = 5) :
    (bestFive l).length = 5 ∧ (∀ c ∈ bestFive l, c ∈ l) ∧ (bestFive l).Pairwise (· < ·) ∧ compareFive s (bestFive l) ≤ 0 := by
  have sp := sorted_perm l
  have sl := sorted_length l
  have hsh : isHand (sorted l) = true := by rw [isHand_perm sp]; exact hh
  have nd := ((isHand_iff l).1 hh).2
  have e : bestFive l = bestFrom (sorted l) (masks (sorted l)) 0 [] := by
    unfold bestFive
    rw [if_pos ⟨hh, (inR_iff _ _ _).2 ⟨by omega, by omega⟩⟩]
  -- the same five, in the sorted hand's order
  have hq : ((sorted l).filter fun c => decide (c ∈ s)).Perm s := by
    refine (sp.filter _).trans ?_
    refine (List.perm_ext_iff_of_nodup (List.Nodup.sublist List.filter_sublist nd) (nd.sublist hs)).2 (fun c => ?_)
    rw [List.mem_filter, decide_eq_true_eq]
    exact ⟨fun h => h.2, fun h => ⟨hs.subset h, h⟩⟩
  have hf5 : Five s := ⟨(isHand_iff s).2 ⟨fun x hx => ((isHand_iff l).1 hh).1 x (hs.subset hx), nd.sublist hs⟩, hs5⟩
  obtain ⟨j, hj, hjs⟩ := sub_mask (List.filter_sublist (l := sorted l) (p := fun c => decide (c ∈ s))) (by omega) (by omega)
  have mx := (bestFrom_max hsh (masks (sorted l)) 0 [] (.inl rfl)).2 j (Nat.zero_le _) (by omega) (by rw [hjs, hq.length_eq]; exact hs5)
  rw [← e, hjs] at mx
  obtain ⟨f, g, h⟩ := mx
  refine ⟨f.2, fun c hc => sp.mem_iff.1 (g.subset hc), ?_, ?_⟩
  · have hasc : (sorted l).Pairwise (· < ·) := by
      have h1 := sorted_asc l
      have h2 := sorted_nodup nd
      exact (List.pairwise_and_iff.2 ⟨h1, h2⟩).imp (fun {a b} h => by have h1 := h.1; have h2 := h.2; omega)
    exact hasc.sublist g
  · unfold compareFive at h ⊢
    rw [key_perm hq ⟨by rw [isHand_perm hq]; exact hf5.1, by rw [hq.length_eq]; exact hs5⟩] at h
    exact h
end Go.Proofs.Ytecjbogconeilaa.Lib
