/- All melds of a hand: the subsets that are melds, and the reference's own list of them, have the same members. No condition. -/
import Derived.Test.YtecjbogconeilaaOrder
import Derived.Test.YtecjbogconeilaaDeal
namespace Go.Proofs.Ytecjbogconeilaa.Lib
open Go.RowKit Go.Proofs.YtecjbogconeilaaW.PrintWords Go.Proofs.YtecjbogconeilaaW.PrintLast Go.Proofs.YtecjbogconeilaaW.PrintMore
set_option linter.unusedVariables false
set_option linter.unusedSimpArgs false

theorem bits_one (x : Nat) (h : x < 4611686018427387904) : Go.bits .and .i64 (x : Int) 1 = ((x % 2 : Nat) : Int) := by
  unfold Go.bits
  show IntKind.i64.wrap (((BitVec.ofInt IntKind.i64.bits (x : Int)) &&& (BitVec.ofInt IntKind.i64.bits 1)).toNat : Int) = _
  have e : ((BitVec.ofInt IntKind.i64.bits (x : Int)) &&& (BitVec.ofInt IntKind.i64.bits 1)).toNat = x % 2 := by
    rw [BitVec.toNat_and, BitVec.ofInt_natCast, show (1 : Int) = ((1 : Nat) : Int) from rfl, BitVec.ofInt_natCast, BitVec.toNat_ofNat, BitVec.toNat_ofNat]
    have hb : IntKind.i64.bits = 64 := rfl
    rw [hb, Nat.mod_eq_of_lt (by omega), Nat.mod_eq_of_lt (by omega), Nat.and_one_is_mod]
  rw [e, i64_w]
  exact w64 _ (by omega)
/-- The members of a list that a mask picks. -/
def selB : List Int → Nat → List Int
  | [], _ => []
  | c :: r, m => if m % 2 = 1 then c :: selB r (m / 2) else selB r (m / 2)
theorem bitOf_nat (m i : Nat) (hm : m < 4611686018427387904) (hi : i ≤ 60) : bitOf (m : Int) i = decide (m / 2 ^ i % 2 = 1) := by
  unfold bitOf shr
  have hb : IntKind.i64.bits = 64 := rfl
  rw [hb, Int.toNat_natCast, Nat.min_eq_left (by omega), show ((m : Int) / 2 ^ i) = ((m / 2 ^ i : Nat) : Int) by simp, bits_one _ (Nat.lt_of_le_of_lt (Nat.div_le_self _ _) hm)]
  exact decide_eq_decide.2 (by omega)
theorem pickF_sel (m : Nat) (hm : m < 4611686018427387904) : ∀ (l : List Int) (i : Nat), i + l.length ≤ 60 → pickF (m : Int) i l = selB l (m / 2 ^ i)
  | [], i, _ => rfl
  | c :: r, i, h => by
    rw [List.length_cons] at h
    unfold pickF selB
    rw [bitOf_nat m i hm (by omega), pickF_sel m hm r (i + 1) (by omega), show m / 2 ^ (i + 1) = m / 2 ^ i / 2 by rw [Nat.pow_succ, Nat.div_div_eq_div_mul]]
    by_cases h1 : m / 2 ^ i % 2 = 1
    · rw [if_pos h1, decide_eq_true h1, if_pos rfl]
    · rw [if_neg h1, decide_eq_false h1, if_neg (by simp)]
theorem selB_sub : ∀ (l : List Int) (m : Nat), (selB l m).Sublist l
  | [], m => List.Sublist.slnil
  | c :: r, m => by
    unfold selB
    split
    · exact (selB_sub r _).cons_cons c
    · exact (selB_sub r _).cons c
theorem selB_all : ∀ (l x : List Int), x.Sublist l → ∃ m, m < 2 ^ l.length ∧ selB l m = x
  | [], x, h => ⟨0, by simp, by rw [List.sublist_nil.1 h]; rfl⟩
  | c :: r, x, h => by
    cases h with
    | cons _ h =>
      obtain ⟨m, hm, e⟩ := selB_all r x h
      refine ⟨2 * m, by rw [List.length_cons, Nat.pow_succ]; omega, ?_⟩
      unfold selB
      rw [if_neg (by omega), show 2 * m / 2 = m by omega, e]
    | cons_cons _ h =>
      rename_i x'
      obtain ⟨m, hm, e⟩ := selB_all r x' h
      refine ⟨2 * m + 1, by rw [List.length_cons, Nat.pow_succ]; omega, ?_⟩
      unfold selB
      rw [if_pos (by omega), show (2 * m + 1) / 2 = m by omega, e]
theorem selB_inj : ∀ (l : List Int) (m n : Nat), l.Nodup → m < 2 ^ l.length → n < 2 ^ l.length → selB l m = selB l n → m = n
  | [], m, n, _, hm, hn, _ => by simp at hm hn; omega
  | c :: r, m, n, hd, hm, hn, e => by
    rw [List.nodup_cons] at hd
    rw [List.length_cons, Nat.pow_succ] at hm hn
    have hc : ∀ k, c ∉ selB r k := fun k h => hd.1 ((selB_sub r k).mem h)
    unfold selB at e
    by_cases h1 : m % 2 = 1 <;> by_cases h2 : n % 2 = 1
    · rw [if_pos h1, if_pos h2] at e
      have := selB_inj r (m / 2) (n / 2) hd.2 (by omega) (by omega) (List.cons.inj e).2
      omega
    · rw [if_pos h1, if_neg h2] at e
      exact absurd (by rw [← e]; simp) (hc (n / 2))
    · rw [if_neg h1, if_pos h2] at e
      exact absurd (by rw [e]; simp) (hc (m / 2))
    · rw [if_neg h1, if_neg h2] at e
      have := selB_inj r (m / 2) (n / 2) hd.2 (by omega) (by omega) e
      omega
theorem sub_of_asc : ∀ (x l : List Int), x.Pairwise (· < ·) → l.Pairwise (· < ·) → (∀ y ∈ x, y ∈ l) → x.Sublist l
  | [], l, _, _, _ => List.nil_sublist l
  | a :: x, [], _, _, h => absurd (h a (by simp)) (by simp)
  | a :: x, b :: l, hx, hl, h => by
    have hx' := List.pairwise_cons.1 hx
    have hl' := List.pairwise_cons.1 hl
    by_cases e : a = b
    · subst e
      refine (sub_of_asc x l hx'.2 hl'.2 (fun y hy => ?_)).cons_cons a
      rcases List.mem_cons.1 (h y (by simp [hy])) with e | h1
      · have := hx'.1 y hy; omega
      · exact h1
    · refine (sub_of_asc (a :: x) l hx hl'.2 (fun y hy => ?_)).cons b
      have hab : b < a := by
        rcases List.mem_cons.1 (h a (by simp)) with e2 | h1
        · exact absurd e2 e
        · exact hl'.1 a h1
      rcases List.mem_cons.1 (h y hy) with e2 | h1
      · subst e2
        rcases List.mem_cons.1 hy with e3 | h2
        · omega
        · have := hx'.1 y h2; omega
      · exact h1
theorem asc_eq {x l : List Int} (hx : x.Pairwise (· < ·)) (hl : l.Pairwise (· < ·)) (h : ∀ y, y ∈ x ↔ y ∈ l) : x = l := by
  have h1 := sub_of_asc x l hx hl (fun y hy => (h y).1 hy)
  have h2 := sub_of_asc l x hl hx (fun y hy => (h y).2 hy)
  exact h1.eq_of_length (Nat.le_antisymm h1.length_le h2.length_le)
theorem sorted_lt {l : List Int} (h : l.Nodup) : (sorted l).Pairwise (· < ·) := by
  have h1 := sorted_asc l
  have h2 := sorted_nodup h
  refine List.pairwise_iff_getElem.2 (fun i j hi hj hij => ?_)
  have a := List.pairwise_iff_getElem.1 h1 i j hi hj hij
  have b := List.pairwise_iff_getElem.1 h2 i j hi hj hij
  omega
theorem asc_nodup {l : List Int} (h : l.Pairwise (· < ·)) : l.Nodup := h.imp (fun h e => by omega)
theorem sorted_of_asc {l : List Int} (h : l.Pairwise (· < ·)) : sorted l = l := asc_eq (sorted_lt (asc_nodup h)) h (fun y => mem_sorted)
/-- A meld of a hand, its cards ascending. -/
def IsMeld (l x : List Int) : Prop := x.Pairwise (· < ·) ∧ (∀ y ∈ x, y ∈ l) ∧ (setMeld x = true ∨ runMeld x = true)
def implMelds (l : List Int) : List (List Int) := ((List.range (2 ^ (sorted l).length)).map (selB (sorted l))).filter (fun x => setMeld x || runMeld x)
theorem implMelds_mem {l x : List Int} (h : l.Nodup) : x ∈ implMelds l ↔ IsMeld l x := by
  unfold implMelds IsMeld
  rw [List.mem_filter, Bool.or_eq_true]
  constructor
  · rintro ⟨h1, h2⟩
    obtain ⟨m, _, rfl⟩ := List.mem_map.1 h1
    have hs := selB_sub (sorted l) m
    exact ⟨(sorted_lt h).sublist hs, fun y hy => mem_sorted.1 (hs.mem hy), h2⟩
  · rintro ⟨h1, h2, h3⟩
    obtain ⟨m, hm, rfl⟩ := selB_all (sorted l) x (sub_of_asc x (sorted l) h1 (sorted_lt h) (fun y hy => mem_sorted.2 (h2 y hy)))
    exact ⟨List.mem_map.2 ⟨m, List.mem_range.2 hm, rfl⟩, h3⟩
theorem implMelds_nodup {l : List Int} (h : l.Nodup) : (implMelds l).Nodup := by
  unfold implMelds
  refine List.Pairwise.filter _ ?_
  rw [List.pairwise_map]
  have hr := List.pairwise_lt_range (n := 2 ^ (sorted l).length)
  refine List.pairwise_iff_getElem.2 (fun i j hi hj hij e => ?_)
  rw [List.getElem_range, List.getElem_range] at e
  rw [List.length_range] at hi hj
  have := selB_inj (sorted l) i j (sorted_nodup h) hi hj e
  omega
/-- The cards of rank r that a hand holds. -/
def sameOf (l : List Int) (r : Nat) : List Int := ((List.range 4).map fun (s : Nat) => (s : Int) * 13 + (r : Int)).filter (hasCard l)
def setPart (l : List Int) (r : Nat) : List (List Int) := (if 3 ≤ (sameOf l r).length then [sameOf l r] else []) ++ (if (sameOf l r).length = 4 then (sameOf l r).map (fun c => (sameOf l r).filter (fun y => decide (y ≠ c))) else [])
/-- The rows of a run that goes on at k. -/
def runP (l : List Int) (c : Int) : Nat → List Int → Int → List (List Int)
  | 0, _, _ => []
  | n + 1, run, k => if hasCard l k = true ∧ suitOf k = suitOf c then (if 3 ≤ run.length + 1 then [run ++ [k]] else []) ++ runP l c n (run ++ [k]) (k + 1) else []
def specMelds (l : List Int) : List (List Int) := (List.range 13).flatMap (setPart l) ++ (List.range 52).flatMap (fun (c : Nat) => runP l (c : Int) 53 [] (c : Int))
theorem base4_asc (r : Nat) : ((List.range 4).map fun (s : Nat) => (s : Int) * 13 + (r : Int)).Pairwise (· < ·) := by
  rw [List.pairwise_map]
  exact (List.pairwise_lt_range (n := 4)).imp (fun h => by omega)
theorem sameOf_asc (l : List Int) (r : Nat) : (sameOf l r).Pairwise (· < ·) := (base4_asc r).filter _
theorem sameOf_mem {l : List Int} {r : Nat} {y : Int} : y ∈ sameOf l r ↔ (∃ s : Nat, s < 4 ∧ y = (s : Int) * 13 + (r : Int)) ∧ y ∈ l := by
  unfold sameOf hasCard
  rw [List.mem_filter, List.mem_map, decide_eq_true_eq]
  constructor
  · rintro ⟨⟨s, hs, rfl⟩, h⟩; exact ⟨⟨s, List.mem_range.1 hs, rfl⟩, h⟩
  · rintro ⟨⟨s, hs, rfl⟩, h⟩; exact ⟨⟨s, List.mem_range.2 hs, rfl⟩, h⟩
theorem sameOf_le (l : List Int) (r : Nat) : (sameOf l r).length ≤ 4 := by
  have := List.length_filter_le (hasCard l) ((List.range 4).map fun (s : Nat) => (s : Int) * 13 + (r : Int))
  simpa [sameOf] using this
theorem rank_of {y : Int} {s r : Nat} (hr : r < 13) (hs : s < 4) (e : y = (s : Int) * 13 + (r : Int)) : isCard y = true ∧ rankOf y = (r : Int) := by
  have hc : isCard y = true := (isCard_iff y).2 (by omega)
  refine ⟨hc, ?_⟩
  unfold rankOf
  rw [if_pos hc]; omega
/-- An ascending row of three or four cards of one rank is a set. -/
theorem setMeld_of {x : List Int} {r : Nat} (hr : r < 13) (hx : x.Pairwise (· < ·)) (hm : ∀ y ∈ x, ∃ s : Nat, s < 4 ∧ y = (s : Int) * 13 + (r : Int)) (h3 : 3 ≤ x.length) (h4 : x.length ≤ 4) : setMeld x = true := by
  unfold setMeld
  rw [Bool.and_eq_true, Bool.and_eq_true, isHand_iff, inR_iff, List.all_eq_true]
  have hr2 : ∀ y ∈ x, isCard y = true ∧ rankOf y = (r : Int) := fun y hy => by
    obtain ⟨s, hs, e⟩ := hm y hy
    exact rank_of hr hs e
  refine ⟨⟨fun y hy => (hr2 y hy).1, asc_nodup hx⟩, by omega, fun y hy => ?_⟩
  rw [decide_eq_true_eq, (hr2 y hy).2]
  have h0 : rd x 0 ∈ x := by
    have := rd_at x 0 (by omega)
    rw [show ((0 : Nat) : Int) = 0 from rfl] at this
    rw [this]; exact List.getElem_mem _
  rw [(hr2 _ h0).2]
theorem filter_one : ∀ (l : List Int) (c : Int), l.Nodup → c ∈ l → (l.filter (fun y => decide (y ≠ c))).length + 1 = l.length
  | [], c, _, h => by cases h
  | a :: l, c, hd, h => by
    rw [List.nodup_cons] at hd
    rw [List.filter_cons]
    by_cases e : a = c
    · subst e
      have : l.filter (fun y => decide (y ≠ a)) = l := List.filter_eq_self.2 (fun y hy => decide_eq_true (fun e => hd.1 (e ▸ hy)))
      rw [if_neg (by simp), this, List.length_cons]
    · rw [if_pos (decide_eq_true e), List.length_cons, List.length_cons, filter_one l c hd.2 ((List.mem_cons.1 h).resolve_left (fun e2 => e e2.symm))]
theorem setPart_mem {l x : List Int} {r : Nat} (hr : r < 13) (h : x ∈ setPart l r) : IsMeld l x ∧ setMeld x = true ∧ (∀ y ∈ x, rankOf y = (r : Int)) := by
  have ha := sameOf_asc l r
  have h4 := sameOf_le l r
  have fin : ∀ x : List Int, x.Sublist (sameOf l r) → 3 ≤ x.length → IsMeld l x ∧ setMeld x = true ∧ (∀ y ∈ x, rankOf y = (r : Int)) := by
    intro x hs h3
    have hx := ha.sublist hs
    have hm : ∀ y ∈ x, ∃ s : Nat, s < 4 ∧ y = (s : Int) * 13 + (r : Int) := fun y hy => (sameOf_mem.1 (hs.mem hy)).1
    have hset := setMeld_of hr hx hm h3 (Nat.le_trans hs.length_le h4)
    refine ⟨⟨hx, fun y hy => (sameOf_mem.1 (hs.mem hy)).2, .inl hset⟩, hset, fun y hy => ?_⟩
    obtain ⟨s, hs4, e⟩ := hm y hy
    exact (rank_of hr hs4 e).2
  unfold setPart at h
  rcases List.mem_append.1 h with h | h
  · split at h
    · rename_i h3
      rw [List.mem_singleton.1 h]
      exact fin _ (List.Sublist.refl _) h3
    · cases h
  · split at h
    · rename_i h4e
      obtain ⟨c, hc, rfl⟩ := List.mem_map.1 h
      have := filter_one (sameOf l r) c (asc_nodup ha) hc
      exact fin _ (List.filter_sublist) (by omega)
    · cases h
theorem set_in {l x : List Int} (h : IsMeld l x) (hs : setMeld x = true) : ∃ r : Nat, r < 13 ∧ x ∈ setPart l r := by
  obtain ⟨h1, h2, _⟩ := h
  unfold setMeld at hs
  rw [Bool.and_eq_true, Bool.and_eq_true, isHand_iff, inR_iff, List.all_eq_true] at hs
  obtain ⟨⟨g1, _⟩, g3, g4⟩ := hs
  have h0 : rd x 0 ∈ x := by
    have := rd_at x 0 (by omega)
    rw [show ((0 : Nat) : Int) = 0 from rfl] at this
    rw [this]; exact List.getElem_mem _
  have c0 := (isCard_iff _).1 (g1 _ h0)
  have e0 : rankOf (rd x 0) = rd x 0 % 13 := by unfold rankOf; rw [if_pos (g1 _ h0)]
  refine ⟨(rd x 0 % 13).toNat, by omega, ?_⟩
  obtain ⟨r, hr⟩ : ∃ r : Nat, r = (rd x 0 % 13).toNat := ⟨_, rfl⟩
  rw [← hr]
  have hin : ∀ y ∈ x, y ∈ sameOf l r := by
    intro y hy
    have cy := (isCard_iff _).1 (g1 y hy)
    have ey : rankOf y = y % 13 := by unfold rankOf; rw [if_pos (g1 y hy)]
    have := of_decide_eq_true (g4 y hy)
    exact sameOf_mem.2 ⟨⟨(y / 13).toNat, by omega, by omega⟩, h2 y hy⟩
  have ha := sameOf_asc l r
  have h4 := sameOf_le l r
  have hsub := sub_of_asc x (sameOf l r) h1 ha hin
  have hlen := hsub.length_le
  unfold setPart
  by_cases e : x.length = (sameOf l r).length
  · rw [hsub.eq_of_length e, if_pos (by omega)]; simp
  · have e4 : (sameOf l r).length = 4 := by omega
    obtain ⟨c, hc, hcx⟩ : ∃ c, c ∈ sameOf l r ∧ c ∉ x := by
      rcases Classical.em (∃ c, c ∈ sameOf l r ∧ c ∉ x) with h | h
      · exact h
      · exfalso
        have := sub_of_asc (sameOf l r) x ha h1 (fun y hy => by
          rcases Classical.em (y ∈ x) with g | g
          · exact g
          · exact absurd ⟨y, hy, g⟩ h)
        have := this.length_le
        omega
    have hf := filter_one (sameOf l r) c (asc_nodup ha) hc
    have hsub2 := sub_of_asc x ((sameOf l r).filter (fun y => decide (y ≠ c))) h1 (ha.filter _) (fun y hy => List.mem_filter.2 ⟨hin y hy, decide_eq_true (fun e => hcx (e ▸ hy))⟩)
    refine List.mem_append.2 (.inr ?_)
    rw [if_pos e4]
    exact List.mem_map.2 ⟨c, hc, (hsub2.eq_of_length (by omega)).symm⟩
end Go.Proofs.Ytecjbogconeilaa.Lib
