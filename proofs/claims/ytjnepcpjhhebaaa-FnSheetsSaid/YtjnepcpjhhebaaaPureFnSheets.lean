/- In the given program FnSheets answers true for every input, by what its functions compute; no condition. -/
import Derived.Test.YtjnepcpjhhebaaaQFnSheetsx5
import Derived.Test.YtjnepcpjhhebaaaLib
import Derived.Test.YtjnepcpjhhebaaaCards
import Derived.Test.YtjnepcpjhhebaaaSheets
import Derived.Test.YtjnepcpjhhebaaaDraw
namespace Go.Proofs.Ytjnepcpjhhebaaa.Pure
open Go.RowKit Go.Proofs.Ytjnepcpjhhebaaa.QFnSheets Go.Proofs.YtjnepcpjhhebaaaW.PrintWords Go.Proofs.YtjnepcpjhhebaaaW.PrintLast Go.Proofs.YtjnepcpjhhebaaaW.PrintMore Go.Proofs.Ytjnepcpjhhebaaa.Lib
set_option linter.unusedVariables false
set_option linter.unusedSimpArgs false

theorem rdss_at (l : List (List Int)) (i : Nat) (h : i < l.length) : rd_L2 l (i : Int) = l[i] := by
  unfold rd_L2
  rw [Int.toNat_natCast, List.getD_eq_getElem?_getD, List.getElem?_eq_getElem h]
  rfl

theorem laws_big_eq (l : List Int) : laws_big.f l = some (decide ((l.length : Int) > 1048576)) := rfl

theorem spec_l1New_ev (l : List Int) (hl : l.length ≤ 140737488351232) : EvP (fun k => spec_l1New.f k l) (fun r => r.1 = l ∧ Cur l r.2.1) := by
  have key : ∀ (d i : Nat) (h : Int), i + d = l.length → EvP (fun k => spec_l1New.l0 k l h (i : Int)) (fun r => r.1 = l ∧ Cur l r.2.1) := by
    intro d
    induction d with
    | zero =>
      intro i h hd
      refine EvP.unfold (fun k => rfl) ?_
      simp only [spec_l1New.l0]
      exact EvP.neg (by omega) (EvP.now ⟨rfl, by unfold Cur; simp only; omega⟩)
    | succ d ih =>
      intro i h hd
      refine EvP.unfold (fun k => rfl) ?_
      simp only [spec_l1New.l0]
      refine EvP.pos (by omega) (EvP.ite (fun _ => EvP.pos (by omega) ?_) (fun _ => EvP.now ⟨rfl, by unfold Cur; simp only; omega⟩))
      rw [w64next i (by omega)]
      exact ih (i + 1) _ (by omega)
  simp only [spec_l1New.f]
  exact key l.length 0 _ (by omega)

theorem spec_l1Byte_ok (b : List Int) (i h : Int) (hc : Cur b i) : OkP (spec_l1Byte.f b i h) (fun r => 0 ≤ r.1 ∧ r.1 ≤ 255 ∧ Cur b r.2.1) := by
  obtain ⟨h0, h1, h2⟩ := hc
  unfold spec_l1Byte.f
  refine OkP.ite (fun h3 => OkP.pos h0 (OkP.now ?_)) (fun h3 => OkP.now ?_)
  · have := and_mask (wrap64 ((Go.bits .and .i64 (Go.bits .xor .i64 ((wrap64 ((wrap64 (h * 6364136223846793005)) + 1442695040888963407)) / 8589934592) ((wrap64 ((wrap64 (h * 6364136223846793005)) + 1442695040888963407)) / 140737488355328)) 255) + (wrap64 (rd b i)))) 255 (by omega)
    refine ⟨this.1, this.2, ?_⟩
    unfold Cur
    simp only
    rw [w64 _ (by omega)]
    omega
  · have := and_mask (Go.bits .xor .i64 ((wrap64 ((wrap64 (h * 6364136223846793005)) + 1442695040888963407)) / 8589934592) ((wrap64 ((wrap64 (h * 6364136223846793005)) + 1442695040888963407)) / 140737488355328)) 255 (by omega)
    exact ⟨this.1, this.2, h0, h1, h2⟩

theorem spec_l1Below_ok (b : List Int) (i h n : Int) (hc : Cur b i) (hn : n ≤ 1000000000) : OkP (spec_l1Below.f b i h n) (fun r => 0 ≤ r.1 ∧ (0 < n → r.1 < n) ∧ (n ≤ 0 → r.1 = 0) ∧ Cur b r.2.1) := by
  unfold spec_l1Below.f
  refine OkP.ite (fun h1 => OkP.now ⟨Int.le_refl 0, fun h => absurd h (by omega), fun _ => rfl, hc⟩) (fun h1 => OkP.ite (fun h2 => ?_) (fun h2 => ?_))
  · refine (spec_l1Byte_ok b i h hc).bind (fun r hr => OkP.neg (by omega) (OkP.now ?_))
    have := tmod_range (x := r.1) (n := n) hr.1 (by omega)
    exact ⟨this.1, fun _ => this.2, fun h => absurd h h1, hr.2.2⟩
  · refine (spec_l1Byte_ok b i h hc).bind (fun r hr => (spec_l1Byte_ok b _ _ hr.2.2).bind (fun s hs => (spec_l1Byte_ok b _ _ hs.2.2).bind (fun t ht => OkP.neg (by omega) (OkP.now ?_))))
    have e : wrap64 ((wrap64 ((wrap64 (r.1 * 65536)) + (wrap64 (s.1 * 256)))) + t.1) = r.1 * 65536 + s.1 * 256 + t.1 := by
      rw [w64 (r.1 * 65536) (by omega), w64 (s.1 * 256) (by omega), w64 (r.1 * 65536 + s.1 * 256) (by omega), w64 _ (by omega)]
    simp only
    rw [e]
    have := tmod_range (x := r.1 * 65536 + s.1 * 256 + t.1) (n := n) (by omega) (by omega)
    exact ⟨this.1, fun _ => this.2, fun h => absurd h h1, ht.2.2⟩

theorem spec_l1In_eq (n a b : Int) : spec_l1In.f n a b = some (inR n a b) := by
  unfold spec_l1In.f inR
  by_cases h : a ≤ n
  · rw [if_pos (by omega)]; simp [h]
  · rw [if_neg (by omega)]; simp [h]

theorem spec_FromTricks_ev (l : List Int) (hl : l.length ≤ 1048576000) : Ev (fun k => spec_FromTricks.f k l) (fromTricks l) := by
  have l1 : ∀ n : Int, Ev (fun k => spec_FromTricks.l1 k l n [] 0) (if inR (l.length : Int) 2 6 = true then l.map (fun x => wrap64 (wrap64 ((l.length : Int) * x) - n)) else []) := by
    intro n
    refine ev_loop (fun k (s : List Int) i => spec_FromTricks.l1 k l n s i) l (fun s r => if inR (l.length : Int) 2 6 = true then s ++ r.map (fun x => wrap64 (wrap64 ((l.length : Int) * x) - n)) else s) (fun s i => s.length = i) ?_ ?_ [] 0 (by omega) rfl
    · rintro s hs
      refine ev_unfold (fun k => rfl) ?_
      simp only [spec_FromTricks.l1]
      refine ev_neg (by omega) (ev_ret ?_)
      simp
    · rintro s i hi hs ih
      refine ev_unfold (fun k => rfl) ?_
      simp only [spec_FromTricks.l1, spec_l1In_eq, Option.bind_some]
      refine ev_pos (by omega) ?_
      rw [w64next i (by omega), rd_at l i hi]
      refine ev_ite (fun h => ?_) (fun h => ?_)
      · refine ev_pos (by omega) (ev_pos (by omega) ?_)
        refine ev_done (ih _ (by simp [hs])) ?_
        simp only [h, if_true, List.map_cons, List.append_assoc, List.singleton_append]
      · refine ev_ret ?_
        rw [if_neg h]
  simp only [spec_FromTricks.f]
  refine ev_done (ev_loop (fun k (s : Int) i => spec_FromTricks.l0 k l s i) l (fun s r => if (r.all fun x => inR x 0 200) = true then (if inR (l.length : Int) 2 6 = true then l.map (fun x => wrap64 (wrap64 ((l.length : Int) * x) - wsum s r)) else []) else []) (fun _ _ => True) ?_ ?_ 0 0 (by omega) trivial) ?_
  · rintro s _
    refine ev_unfold (fun k => rfl) ?_
    simp only [spec_FromTricks.l0]
    refine ev_neg (by omega) ?_
    simp only [List.all_nil, if_true]
    exact l1 s
  · rintro s i hi _ ih
    refine ev_unfold (fun k => rfl) ?_
    simp only [spec_FromTricks.l0, spec_l1In_eq, Option.bind_some]
    refine ev_pos (by omega) (ev_pos (by omega) ?_)
    rw [w64next i (by omega), rd_at l i hi, List.all_cons]
    refine ev_ite (fun h => ?_) (fun h => ?_)
    · rw [h, Bool.true_and]; exact ih _ trivial
    · rw [Bool.not_eq_true] at h
      rw [h, Bool.false_and]; exact Ev.now _
  · unfold fromTricks
    by_cases h1 : (l.all fun x => inR x 0 200) = true
    · by_cases h2 : inR (l.length : Int) 2 6 = true
      · rw [List.drop_zero, if_pos h1, if_pos h2, if_pos ⟨h2, h1⟩]
      · rw [List.drop_zero, if_pos h1, if_neg h2, if_neg (fun h => h2 h.1)]
    · rw [List.drop_zero, if_neg h1, if_neg (fun h => h1 h.2)]

theorem spec_l15Round_ev (b : List Int) (i h p : Int) (hc : Cur b i) (hp : p ≤ 100) : EvP (fun k => spec_l15Round.f k b i h p) (fun r => r.1.length ≤ 100 ∧ Cur b r.2.1) := by
  have key : ∀ (d : Nat) (w : List Int) (j i h : Int), 0 ≤ j → (d : Int) = max 0 (p - j) → (w.length : Int) = j → j ≤ max 0 p → Cur b i → EvP (fun k => spec_l15Round.l0 k p w j b i h) (fun r => r.1.length ≤ 100 ∧ Cur b r.2.1) := by
    intro d
    induction d with
    | zero =>
      intro w j i h hj hd hw hj2 hc
      refine EvP.unfold (fun k => rfl) ?_
      simp only [spec_l15Round.l0]
      refine EvP.neg (by omega) ?_
      refine EvP.bind (EvP.of (P := fun a => a = fromTricks w) (spec_FromTricks_ev w (by omega)) rfl) (fun a ha => EvP.now ⟨?_, hc⟩)
      rw [ha]; have := fromTricks_length w; simp only; omega
    | succ d ih =>
      intro w j i h hj hd hw hj2 hc
      refine EvP.unfold (fun k => rfl) ?_
      simp only [spec_l15Round.l0]
      refine EvP.pos (by omega) (EvP.bind (spec_l1Below_ok b i h 20 hc (by omega)).ev (fun r hr => EvP.pos (by omega) ?_))
      rw [w64 (j + 1) (by omega)]
      exact ih _ _ _ _ (by omega) (by omega) (by simp; omega) (by omega) hr.2.2.2
  simp only [spec_l15Round.f]
  exact key (max 0 p).toNat [] 0 i h (by omega) (by omega) rfl (by omega) hc

theorem spec_l1Int_ok (b : List Int) (i h : Int) (l : List Int) (hc : Cur b i) (h0 : 0 < l.length) (hl : l.length ≤ 1000000000) : OkP (spec_l1Int.f b i h l) (fun r => r.1 ∈ l ∧ Cur b r.2.1) := by
  unfold spec_l1Int.f
  refine (spec_l1Below_ok b i h (l.length : Int) hc (by omega)).bind (fun r hr => OkP.pos hr.1 (OkP.pos (hr.2.1 (by omega)) (OkP.now ⟨?_, hr.2.2.2⟩)))
  obtain ⟨j, hj⟩ : ∃ j : Nat, r.1 = (j : Int) := ⟨r.1.toNat, by have := hr.1; omega⟩
  have hj2 : j < l.length := by have := hr.2.1 (by omega); omega
  simp only
  rw [hj, rd_at l j hj2]
  exact List.getElem_mem hj2

theorem spec_l15Any_ev (b : List Int) (i h : Int) (hc : Cur b i) : EvP (fun k => spec_l15Any.f k b i h) (fun r => (-1 ≤ r.1 ∧ r.1 ≤ 7) ∧ r.2.1.length ≤ 10 ∧ (∀ x ∈ r.2.1, x.length ≤ 100) ∧ Cur b r.2.2.1) := by
  have key : ∀ (d : Nat) (p : Int) (w : List (List Int)) (j i h : Int), 2 ≤ p → p ≤ 5 → j = (d : Int) → w.length + d ≤ 5 → (∀ x ∈ w, x.length ≤ 100) → Cur b i → EvP (fun k => spec_l15Any.l0 k p w j b i h) (fun r => (-1 ≤ r.1 ∧ r.1 ≤ 7) ∧ r.2.1.length ≤ 10 ∧ (∀ x ∈ r.2.1, x.length ≤ 100) ∧ Cur b r.2.2.1) := by
    intro d
    induction d with
    | zero =>
      intro p w j i h hp hp2 hd hw hw2 hc
      refine EvP.unfold (fun k => rfl) ?_
      simp only [spec_l15Any.l0]
      refine EvP.neg (by omega) (EvP.bind (spec_l1Below_ok b i h 10 hc (by omega)).ev (fun r hr => ?_))
      refine EvP.ite (fun _ => EvP.bind (spec_l1Int_ok b _ _ [1, 6, 7, -1] hr.2.2.2 (by simp) (by simp)).ev (fun s hs => EvP.now ⟨?_, by simp only; omega, hw2, hs.2⟩)) (fun _ => EvP.ite (fun _ => EvP.pos (by omega) (EvP.now ⟨by simp only; omega, by simp; omega, ?_, hr.2.2.2⟩)) (fun _ => EvP.ite (fun _ => EvP.pos (by omega) (EvP.now ⟨by simp only; omega, by simp; omega, ?_, hr.2.2.2⟩)) (fun _ => EvP.now ⟨by simp only; omega, by simp only; omega, hw2, hr.2.2.2⟩)))
      · have := hs.1
        simp only [List.mem_cons, List.not_mem_nil, or_false] at this
        simp only
        omega
      · intro x hx
        rcases List.mem_append.1 hx with hx | hx
        · exact hw2 x hx
        · rw [List.mem_singleton.1 hx]; simp
      · intro x hx
        rcases List.mem_append.1 hx with hx | hx
        · exact hw2 x hx
        · rw [List.mem_singleton.1 hx]; simp
    | succ d ih =>
      intro p w j i h hp hp2 hd hw hw2 hc
      refine EvP.unfold (fun k => rfl) ?_
      simp only [spec_l15Any.l0]
      refine EvP.pos (by omega) (EvP.bind (spec_l15Round_ev b i h p hc (by omega)) (fun r hr => EvP.pos (by omega) ?_))
      rw [w64 (j - 1) (by omega)]
      refine ih p _ _ _ _ hp hp2 (by omega) (by simp; omega) ?_ hr.2
      intro x hx
      rcases List.mem_append.1 hx with hx | hx
      · exact hw2 x hx
      · rw [List.mem_singleton.1 hx]; exact hr.1
  simp only [spec_l15Any.f]
  refine EvP.bind (spec_l1Below_ok b i h 4 hc (by omega)).ev (fun r hr => EvP.bind (spec_l1Below_ok b _ _ 6 hr.2.2.2 (by omega)).ev (fun s hs => ?_))
  have h1 := hr.2.1 (by omega)
  have h2 := hs.2.1 (by omega)
  rw [w64 (2 + r.1) (by omega)]
  exact key s.1.toNat _ _ _ _ _ (by omega) (by omega) (by omega) (by simp; omega) (by simp) hs.2.2.2

theorem spec_l1Once_ok (b : List Int) (i h n : Int) (hc : Cur b i) (hn : n ≤ 1000000000) : OkP (spec_l1Once.f b i h n) (fun r => Cur b r.2.1) := by
  unfold spec_l1Once.f
  exact (spec_l1Below_ok b i h n hc hn).bind (fun r hr => OkP.now hr.2.2.2)

theorem spec_Max_eq (a b : Int) : spec_Max.f a b = some (max a b) := by
  unfold spec_Max.f
  split <;> (congr 1; omega)

theorem spec_DrawAddRound_ev (l : List Int) (hl : l.length ≤ 140737488351232) : EvP (fun k => spec_DrawAddRound.f k l) (fun r => (-1 ≤ r.1 ∧ r.1 ≤ 7) ∧ r.2.1.length ≤ 10 ∧ (∀ x ∈ r.2.1, x.length ≤ 100) ∧ r.2.2.length ≤ 100) := by
  simp only [spec_DrawAddRound.f]
  refine EvP.bind (spec_l1New_ev l hl) (fun c hc => ?_)
  have hc2 := hc.2
  rw [← hc.1] at hc2
  refine EvP.bind (spec_l15Any_ev c.1 _ _ hc2) (fun r hr => EvP.bind (spec_l1Once_ok c.1 _ _ 4 hr.2.2.2 (by omega)).ev (fun s hs => EvP.ite (fun _ => EvP.now ⟨hr.1, hr.2.1, hr.2.2.1, by simp⟩) (fun _ => ?_)))
  obtain ⟨m, hm, hm2⟩ : ∃ m, spec_Min.f 6 r.1 = some m ∧ m ≤ 6 := by
    unfold spec_Min.f
    split
    · exact ⟨_, rfl, by omega⟩
    · exact ⟨_, rfl, by omega⟩
  obtain ⟨q, hq, hq2⟩ : ∃ q, spec_Max.f 2 m = some q ∧ q ≤ 6 := by
    unfold spec_Max.f
    split
    · exact ⟨_, rfl, by omega⟩
    · exact ⟨_, rfl, by omega⟩
  rw [hm]
  simp only [Option.bind_some]
  rw [hq]
  simp only [Option.bind_some]
  refine EvP.bind (spec_l15Round_ev c.1 _ _ q hs (by omega)) (fun t ht => EvP.now ⟨hr.1, hr.2.1, hr.2.2.1, ht.1⟩)

theorem impl_InRange_eq (n a b : Int) : impl_InRange.f n a b = some (inR n a b) := by
  unfold impl_InRange.f inR
  by_cases h : a ≤ n
  · rw [if_pos (by omega)]; simp [h]
  · rw [if_neg (by omega)]; simp [h]

theorem impl_allIn_ev (l : List Int) (a b : Int) (hl : l.length ≤ 1048576000) : Ev (fun k => impl_allIn.f k l a b) (l.all fun x => inR x a b) := by
  simp only [impl_allIn.f]
  refine ev_loop (fun k (_ : Unit) i => impl_allIn.l0 k a b l (l.length : Int) i) l (fun _ r => r.all fun x => inR x a b) (fun _ _ => True) ?_ ?_ () 0 (by omega) trivial
  · rintro s _
    refine ev_unfold (fun k => rfl) ?_
    simp only [impl_allIn.l0]
    exact ev_neg (by omega) (ev_ret rfl)
  · rintro s i hi _ ih
    refine ev_unfold (fun k => rfl) ?_
    simp only [impl_allIn.l0]
    refine ev_pos (by omega) (ev_pos (by omega) (ev_pos (by omega) (ev_eq (impl_InRange_eq _ _ _) ?_)))
    rw [w64next i (by omega), rd_at l i hi, List.all_cons]
    refine ev_ite (fun h => ?_) (fun h => ?_)
    · rw [h, Bool.true_and]; exact ih () trivial
    · rw [Bool.not_eq_true] at h
      rw [h, Bool.false_and]; exact Ev.now _

theorem impl_sum_ev (l : List Int) (hl : l.length ≤ 1048576000) : Ev (fun k => impl_sum.f k l) (wsum 0 l) := by
  simp only [impl_sum.f]
  refine ev_loop (fun k (s : Int) i => impl_sum.l0 k s l (l.length : Int) i) l (fun s r => wsum s r) (fun _ _ => True) ?_ ?_ 0 0 (by omega) trivial
  · rintro s _
    refine ev_unfold (fun k => rfl) ?_
    simp only [impl_sum.l0]
    exact ev_neg (by omega) (ev_ret rfl)
  · rintro s i hi _ ih
    refine ev_unfold (fun k => rfl) ?_
    simp only [impl_sum.l0]
    refine ev_pos (by omega) (ev_pos (by omega) (ev_pos (by omega) ?_))
    rw [w64next i (by omega), rd_at l i hi]
    exact ih _ trivial

theorem impl_IsRound_ev (p : Int) (l : List Int) (hl : l.length ≤ 1048576000) : Ev (fun k => impl_IsRound.f k p l) (isRound p l) := by
  simp only [impl_IsRound.f, impl_InRange_eq, Option.bind_some]
  unfold isRound
  refine ev_ite (fun h => ?_) (fun h => ?_)
  · refine ev_ite (fun h2 => ?_) (fun h2 => ?_)
    · refine Ev.bind (impl_allIn_ev l _ _ hl) ?_
      refine ev_ite (fun h3 => ?_) (fun h3 => ?_)
      · refine Ev.bind (impl_sum_ev l hl) (ev_ret ?_)
        simp [h, h2, h3]
      · refine ev_ret ?_
        rw [Bool.not_eq_true] at h3
        rw [h3, Bool.false_and]
    · refine ev_ret ?_
      simp [h2]
  · refine ev_ret ?_
    simp [h]

theorem impl_IsSheet_ev (p : Int) (l : List (List Int)) (hl : l.length ≤ 1048576000) (hr : ∀ r ∈ l, r.length ≤ 1048576000) : Ev (fun k => impl_IsSheet.f k p l) (isSheet p l) := by
  simp only [impl_IsSheet.f]
  refine ev_done (ev_loop (fun k (_ : Unit) i => impl_IsSheet.l0 k p l l (l.length : Int) i) l (fun _ r => r.all (isRound p) && (inR p 2 6 && decide (l.length ≤ 50))) (fun _ _ => True) ?_ ?_ () 0 (by omega) trivial) rfl
  · rintro _ _
    refine ev_unfold (fun k => rfl) ?_
    simp only [impl_IsSheet.l0, impl_InRange_eq, Option.bind_some]
    refine ev_neg (by omega) (ev_ite (fun h => ev_ret ?_) (fun h => ev_ret ?_))
    · simp [h]; omega
    · simp [h]
  · rintro _ i hi _ ih
    refine ev_unfold (fun k => rfl) ?_
    simp only [impl_IsSheet.l0]
    rw [w64next i (by omega), rdss_at l i hi, List.all_cons]
    refine ev_pos (by omega) (ev_pos (by omega) (ev_pos (by omega) (Ev.bind (impl_IsRound_ev p _ (hr _ (List.getElem_mem hi))) ?_)))
    refine ev_ite (fun h => ?_) (fun h => ev_ret ?_)
    · rw [h, Bool.true_and]; exact ih () trivial
    · rw [Bool.not_eq_true] at h; rw [h]; simp

theorem impl_copyOf_eq (l : List Int) (hl : l.length ≤ 1048576000) : impl_copyOf.f l = some l := by
  unfold impl_copyOf.f
  simp only [Option.bind_some, List.length_nil, List.nil_append]
  rw [if_pos (by omega)]

theorem impl_copyRows_ev (l : List (List Int)) (hl : l.length ≤ 1048576000) (hr : ∀ r ∈ l, r.length ≤ 1048576000) : Ev (fun k => impl_copyRows.f k l) l := by
  simp only [impl_copyRows.f]
  refine ev_done (ev_loop (fun k (s : List (List Int)) i => impl_copyRows.l0 k s l (l.length : Int) i) l (fun s r => s ++ r) (fun s i => s.length = i) ?_ ?_ [] 0 (by omega) rfl) (by simp)
  · rintro s hs
    refine ev_unfold (fun k => rfl) ?_
    simp only [impl_copyRows.l0]
    exact ev_neg (by omega) (ev_ret (by simp))
  · rintro s i hi hs ih
    refine ev_unfold (fun k => rfl) ?_
    simp only [impl_copyRows.l0]
    rw [w64next i (by omega), rdss_at l i hi]
    refine ev_pos (by omega) (ev_pos (by omega) (ev_pos (by omega) (ev_eq (impl_copyOf_eq _ (hr _ (List.getElem_mem hi))) (ev_pos (by omega) ?_))))
    refine ev_done (ih _ (by simp [hs])) ?_
    simp

theorem impl_AddRound_ev (p : Int) (l : List (List Int)) (r : List Int) (hl : l.length ≤ 104857600) (hr : ∀ r ∈ l, r.length ≤ 1048576000) (hr1 : r.length ≤ 1048576000) : Ev (fun k => impl_AddRound.f k p l r) (if isSheet p (l ++ [r]) = true then (l ++ [r], true) else (l, false)) := by
  have hlr : ∀ x ∈ l ++ [r], x.length ≤ 1048576000 := by
    intro x hx
    rcases List.mem_append.1 hx with hx | hx
    · exact hr x hx
    · rw [List.mem_singleton.1 hx]; exact hr1
  simp only [impl_AddRound.f]
  refine Ev.bind (impl_copyRows_ev l (by omega) hr) (ev_eq (impl_copyOf_eq r hr1) (ev_pos (by omega) (ev_eq rfl (Ev.bind (impl_IsSheet_ev p (l ++ [r]) (by simp; omega) hlr) (ev_ite (fun h => ev_ret ?_) (fun h => Ev.bind (impl_copyRows_ev l (by omega) hr) (ev_ret ?_)))))))
  · rw [if_pos h]
  · rw [if_neg h]

theorem impl_TotalOf_ev (p : Int) (l : List (List Int)) (w : Int) (hl : l.length ≤ 1048576000) (hr : ∀ r ∈ l, r.length ≤ 1048576000) (hp : -9223372036854775808 ≤ p ∧ p ≤ 9223372036854775807) : Ev (fun k => impl_TotalOf.f k p l w) (totalOf p l w) := by
  have l0 : isSheet p l = true → inR w 0 (p - 1) = true → Ev (fun k => impl_TotalOf.l0 k w 0 l (l.length : Int) 0) (totalF w 0 l) := by
    intro h h2
    refine ev_loop (fun k (s : Int) i => impl_TotalOf.l0 k w s l (l.length : Int) i) l (fun s r => totalF w s r) (fun _ _ => True) ?_ ?_ 0 0 (by omega) trivial
    · rintro s _
      refine ev_unfold (fun k => rfl) ?_
      simp only [impl_TotalOf.l0]
      exact ev_neg (by omega) (ev_ret rfl)
    · rintro s i hi _ ih
      have h3 := (inR_iff _ _ _).1 h2
      have hrow := isSheet_row h (List.getElem_mem hi)
      refine ev_unfold (fun k => rfl) ?_
      simp only [impl_TotalOf.l0]
      rw [w64next i (by omega), rdss_at l i hi]
      exact ev_pos (by omega) (ev_pos (by omega) (ev_pos (by omega) (ev_pos (by omega) (ev_pos (by omega) (ev_done (ih _ trivial) rfl)))))
  have j0 : ∀ b, (b = false → isSheet p l = true ∧ inR w 0 (p - 1) = true) → Ev (fun k => impl_TotalOf.j0 k l w b) (if b = true then 0 else totalF w 0 l) := by
    intro b hb
    refine ev_unfold (fun k => rfl) ?_
    simp only [impl_TotalOf.j0]
    refine ev_ite (fun h => ?_) (fun h => ?_)
    · rw [if_pos h]; exact Ev.now _
    · rw [if_neg h]
      have hb2 := hb (by simpa using h)
      exact l0 hb2.1 hb2.2
  simp only [impl_TotalOf.f, impl_InRange_eq, Option.bind_some]
  unfold totalOf
  refine Ev.bind (impl_IsSheet_ev p l hl hr) (ev_ite (fun h => ?_) (fun h => ev_done (j0 _ (fun z => by cases z)) ?_))
  · have hp2 := isSheet_p h
    rw [w64 (p - 1) (by omega)]
    refine ev_done (j0 _ (fun z => ⟨h, by simpa using z⟩)) ?_
    by_cases h2 : inR w 0 (p - 1) = true
    · simp [h, h2]
    · simp [h, h2]
  · rw [if_neg (show ¬ (isSheet p l = true ∧ inR w 0 (p - 1) = true) from fun z => h z.1)]; simp

theorem impl_AheadIn_l0 (p : Int) (l : List (List Int)) (hl : l.length ≤ 1048576000) (hr : ∀ r ∈ l, r.length ≤ 1048576000) (hp : 2 ≤ p ∧ p ≤ 6) : ∀ (d : Nat) (b i : Int), 0 ≤ i → i + d = p → Ev (fun k => impl_AheadIn.l0 k p l b p i) (aheadF (totalOf p l) d b i) := by
  intro d
  induction d with
  | zero =>
    intro b i h0 h
    refine ev_unfold (fun k => rfl) ?_
    simp only [impl_AheadIn.l0]
    exact ev_neg (by omega) (ev_ret rfl)
  | succ d ih =>
    intro b i h0 h
    refine ev_unfold (fun k => rfl) ?_
    simp only [impl_AheadIn.l0]
    rw [w64 (i + 1) (by omega)]
    refine ev_pos (by omega) (Ev.bind (impl_TotalOf_ev p l i hl hr (by omega)) (Ev.bind (impl_TotalOf_ev p l b hl hr (by omega)) ?_))
    unfold aheadF
    refine ev_ite (fun h2 => ?_) (fun h2 => ?_)
    · rw [if_pos h2]; exact ih _ _ (by omega) (by omega)
    · rw [if_neg h2]; exact ih _ _ (by omega) (by omega)
theorem impl_AheadIn_ev (p : Int) (l : List (List Int)) (hl : l.length ≤ 1048576000) (hr : ∀ r ∈ l, r.length ≤ 1048576000) : Ev (fun k => impl_AheadIn.f k p l) (aheadIn p l) := by
  simp only [impl_AheadIn.f]
  unfold aheadIn
  refine Ev.bind (impl_IsSheet_ev p l hl hr) (ev_ite (fun h => ?_) (fun h => ev_ret ?_))
  · rw [if_pos h]
    have hp := isSheet_p h
    refine ev_done (impl_AheadIn_l0 p l hl hr hp p.toNat 0 0 (by omega) (by omega)) ?_
    rw [show p.toNat = (p - 1).toNat + 1 by omega]
    simp [aheadF]
  · rw [if_neg h]

theorem spec_DrawFromTricks_ev (l : List Int) (hl : l.length ≤ 140737488351232) : EvP (fun k => spec_DrawFromTricks.f k l) (fun r => r.length ≤ 10) := by
  have key : ∀ (d : Nat) (b w : List Int) (j i h : Int), j = (d : Int) → w.length + d ≤ 7 → Cur b i → EvP (fun k => spec_DrawFromTricks.l0 k w j b i h) (fun r => r.length ≤ 10) := by
    intro d
    induction d with
    | zero =>
      intro b w j i h hd hw hc
      refine EvP.unfold (fun k => rfl) ?_
      simp only [spec_DrawFromTricks.l0]
      refine EvP.neg (by omega) (EvP.ite (fun hp => EvP.bind (spec_l1Once_ok b i h 9 hc (by omega)).ev (fun r hr => EvP.ite (fun _ => EvP.bind (spec_l1Int_ok b _ _ [-1, 201] hr (by simp) (by simp)).ev (fun s hs => EvP.pos (by omega) (EvP.now (by rw [List.length_set]; omega)))) (fun _ => EvP.now (by omega)))) (fun _ => EvP.now (by omega)))
    | succ d ih =>
      intro b w j i h hd hw hc
      refine EvP.unfold (fun k => rfl) ?_
      simp only [spec_DrawFromTricks.l0]
      refine EvP.pos (by omega) (EvP.bind (spec_l1Below_ok b i h 99 hc (by omega)).ev (fun r hr => EvP.bind (spec_l1Int_ok b _ _ [0, 5, 13, 200, r.1] hr.2.2.2 (by simp) (by simp)).ev (fun s hs => EvP.pos (by omega) ?_)))
      rw [w64 (j - 1) (by omega)]
      exact ih b _ _ _ _ (by omega) (by simp; omega) hs.2
  simp only [spec_DrawFromTricks.f]
  refine EvP.bind (spec_l1New_ev l hl) (fun c hc => ?_)
  have hc2 := hc.2
  rw [← hc.1] at hc2
  refine EvP.bind (spec_l1Below_ok c.1 _ _ 8 hc2 (by omega)).ev (fun r hr => ?_)
  have := hr.2.1 (by omega)
  exact key r.1.toNat _ _ _ _ _ (by omega) (by simp; omega) hr.2.2.2

theorem impl_FromTricks_ev (l : List Int) (hl : l.length ≤ 1048576000) : Ev (fun k => impl_FromTricks.f k l) (fromTricks l) := by
  have l0 : Ev (fun k => impl_FromTricks.l0 k l [] l (l.length : Int) 0) (l.map (fun x => wrap64 (wrap64 ((l.length : Int) * x) - wsum 0 l))) := by
    refine ev_loop (fun k (s : List Int) i => impl_FromTricks.l0 k l s l (l.length : Int) i) l (fun s r => s ++ r.map (fun x => wrap64 (wrap64 ((l.length : Int) * x) - wsum 0 l))) (fun s i => s.length = i) ?_ ?_ [] 0 (by omega) rfl
    · rintro s hs
      refine ev_unfold (fun k => rfl) ?_
      simp only [impl_FromTricks.l0]
      refine ev_neg (by omega) (ev_ret ?_)
      simp
    · rintro s i hi hs ih
      refine ev_unfold (fun k => rfl) ?_
      simp only [impl_FromTricks.l0]
      refine ev_pos (by omega) (ev_pos (by omega) (ev_pos (by omega) (Ev.bind (impl_sum_ev l hl) (ev_pos (by omega) ?_))))
      rw [w64next i (by omega), rd_at l i hi]
      refine ev_done (ih _ (by simp [hs])) ?_
      simp only [List.map_cons, List.append_assoc, List.singleton_append]
  have j0 : ∀ b, Ev (fun k => impl_FromTricks.j0 k l b) (if b = true then [] else l.map (fun x => wrap64 (wrap64 ((l.length : Int) * x) - wsum 0 l))) := by
    intro b
    refine ev_unfold (fun k => rfl) ?_
    simp only [impl_FromTricks.j0]
    refine ev_ite (fun h => ?_) (fun h => ?_)
    · rw [if_pos h]; exact Ev.now _
    · rw [if_neg h]; exact l0
  simp only [impl_FromTricks.f, impl_InRange_eq, Option.bind_some]
  unfold fromTricks
  refine ev_ite (fun h => ?_) (fun h => ?_)
  · refine Ev.bind (impl_allIn_ev l _ _ hl) ?_
    refine ev_done (j0 _) ?_
    cases hh : (l.all fun x => inR x 0 200) <;> simp [h]
  · refine ev_done (j0 _) ?_
    simp [h]

theorem laws_sum_ev (l : List Int) (hl : l.length ≤ 1048576000) : Ev (fun k => laws_sum.f k l) (wsum 0 l) := by
  simp only [laws_sum.f]
  refine ev_loop (fun k (s : Int) i => laws_sum.l0 k l s i) l (fun s r => wsum s r) (fun _ _ => True) ?_ ?_ 0 0 (by omega) trivial
  · rintro s _
    refine ev_unfold (fun k => rfl) ?_
    simp only [laws_sum.l0]
    exact ev_neg (by omega) (ev_ret rfl)
  · rintro s i hi _ ih
    refine ev_unfold (fun k => rfl) ?_
    simp only [laws_sum.l0]
    refine ev_pos (by omega) (ev_pos (by omega) ?_)
    rw [w64next i (by omega), rd_at l i hi]
    exact ih _ trivial

def sumTo (f : Nat → Int) : Nat → Int
  | 0 => 0
  | n + 1 => sumTo f n + f n
theorem sumTo_add (f g : Nat → Int) : ∀ n, sumTo (fun j => f j + g j) n = sumTo f n + sumTo g n
  | 0 => rfl
  | n + 1 => by simp only [sumTo]; rw [sumTo_add f g n]; omega
theorem sumTo_zero : ∀ n, sumTo (fun _ => 0) n = 0
  | 0 => rfl
  | n + 1 => by simp only [sumTo]; rw [sumTo_zero n]; omega
theorem sumTo_congr {f g : Nat → Int} : ∀ n, (∀ j, j < n → f j = g j) → sumTo f n = sumTo g n
  | 0, _ => rfl
  | n + 1, h => by simp only [sumTo]; rw [sumTo_congr n (fun j hj => h j (by omega)), h n (by omega)]
theorem rd_out (r : List Int) (j : Nat) (h : r.length ≤ j) : rd r (j : Int) = 0 := by
  unfold rd
  rw [Int.toNat_natCast, List.getD_eq_getElem?_getD, List.getElem?_eq_none h]
  rfl
theorem sumTo_rd (r : List Int) : ∀ n, sumTo (fun j => rd r (j : Int)) n = (r.take n).sum
  | 0 => by simp [sumTo]
  | n + 1 => by
    simp only [sumTo]
    rw [sumTo_rd r n]
    by_cases h : n < r.length
    · rw [take_at r n h, List.sum_append, rd_at r n h]; simp
    · rw [rd_out r n (by omega), List.take_of_length_le (by omega), List.take_of_length_le (by omega)]; omega
def colSum (j : Nat) : List (List Int) → Int
  | [] => 0
  | r :: l => rd r (j : Int) + colSum j l
theorem colSums (n : Nat) : ∀ l : List (List Int), (∀ r ∈ l, r.length ≤ n ∧ r.sum = 0) → sumTo (fun j => colSum j l) n = 0
  | [], _ => sumTo_zero n
  | r :: l, h => by
    simp only [colSum]
    rw [sumTo_add, colSums n l (fun x hx => h x (by simp [hx])), sumTo_rd, List.take_of_length_le (h r (by simp)).1, (h r (by simp)).2]
    rfl
theorem wsum_exact (l : List Int) : ∀ (s : Int), (∀ x ∈ l, -100000 ≤ x ∧ x ≤ 100000) → -1000000000000 + 100000 * (l.length : Int) ≤ s → s ≤ 1000000000000 - 100000 * (l.length : Int) → wsum s l = s + l.sum := by
  induction l with
  | nil => intro s _ _ _; simp [wsum]
  | cons x r ih =>
    intro s h h1 h2
    have hx := h x (by simp)
    rw [List.length_cons] at h1 h2
    have e : wsum s (x :: r) = wsum (wrap64 (s + x)) r := rfl
    rw [e, w64 (s + x) (by omega), ih (s + x) (fun y hy => h y (by simp [hy])) (by omega) (by omega), List.sum_cons]
    omega
theorem round_sum {p : Int} {r : List Int} (h : isRound p r = true) : r.length ≤ 6 ∧ r.sum = 0 ∧ ∀ x ∈ r, -1000 ≤ x ∧ x ≤ 1000 := by
  simp only [isRound, Bool.and_eq_true, List.all_eq_true, decide_eq_true_eq, inR_iff, beq_iff_eq] at h
  obtain ⟨h1, h2, h3, h4⟩ := h
  have e := wsum_exact r 0 (fun x hx => by have := h1 x hx; omega) (by omega) (by omega)
  rw [h4] at e
  exact ⟨by omega, by omega, h1⟩
theorem totalF_exact (w : Nat) (l : List (List Int)) : ∀ (s : Int), (∀ r ∈ l, -1000 ≤ rd r (w : Int) ∧ rd r (w : Int) ≤ 1000) → -1000000000000 + 1000 * (l.length : Int) ≤ s → s ≤ 1000000000000 - 1000 * (l.length : Int) → totalF (w : Int) s l = s + colSum w l := by
  induction l with
  | nil => intro s _ _ _; simp [totalF, colSum]
  | cons r l ih =>
    intro s h h1 h2
    have hx := h r (by simp)
    rw [List.length_cons] at h1 h2
    have e : totalF (w : Int) s (r :: l) = totalF (w : Int) (wrap64 (s + rd r (w : Int))) l := rfl
    have e2 : colSum w (r :: l) = rd r (w : Int) + colSum w l := rfl
    rw [e, w64 _ (by omega), ih _ (fun y hy => h y (by simp [hy])) (by omega) (by omega), e2]
    omega
theorem colSum_bound (w : Nat) : ∀ (l : List (List Int)), (∀ r ∈ l, -1000 ≤ rd r (w : Int) ∧ rd r (w : Int) ≤ 1000) → -1000 * (l.length : Int) ≤ colSum w l ∧ colSum w l ≤ 1000 * (l.length : Int)
  | [], _ => by simp [colSum]
  | r :: l, h => by
    have hx := h r (by simp)
    have := colSum_bound w l (fun y hy => h y (by simp [hy]))
    simp only [colSum, List.length_cons]
    omega
theorem sheet_parts {p : Int} {l : List (List Int)} (h : isSheet p l = true) : (∀ r ∈ l, isRound p r = true) ∧ (2 ≤ p ∧ p ≤ 6) ∧ l.length ≤ 50 := by
  simp only [isSheet, Bool.and_eq_true, List.all_eq_true, decide_eq_true_eq, inR_iff] at h
  exact ⟨h.1, h.2.1, h.2.2⟩
theorem rd_round {p : Int} {r : List Int} (h : isRound p r = true) (w : Nat) : -1000 ≤ rd r (w : Int) ∧ rd r (w : Int) ≤ 1000 := by
  by_cases hw : w < r.length
  · rw [rd_at r w hw]; exact (round_sum h).2.2 _ (List.getElem_mem hw)
  · rw [rd_out r w (by omega)]; omega
theorem colSum_out {p : Int} (w : Nat) (hw : p ≤ (w : Int)) : ∀ l : List (List Int), (∀ r ∈ l, (r.length : Int) = p) → colSum w l = 0
  | [], _ => rfl
  | r :: l, h => by
    have := h r (by simp)
    simp only [colSum]
    rw [rd_out r w (by omega), colSum_out w hw l (fun y hy => h y (by simp [hy]))]
    rfl
theorem totalOf_col {p : Int} {l : List (List Int)} (h : isSheet p l = true) (w : Nat) : totalOf p l (w : Int) = colSum w l := by
  obtain ⟨h1, h2, h3⟩ := sheet_parts h
  unfold totalOf
  by_cases hw : (w : Int) < p
  · rw [if_pos ⟨h, (inR_iff _ _ _).2 (by omega)⟩, totalF_exact w l 0 (fun r hr => rd_round (h1 r hr) w) (by omega) (by omega)]
    omega
  · rw [if_neg (fun z => by have := (inR_iff _ _ _).1 z.2; omega), colSum_out w (by omega) l (fun r hr => isSheet_row h hr)]
theorem totals_zero (p : Int) (l : List (List Int)) : sumTo (fun j => totalOf p l (j : Int)) 6 = 0 ∧ ∀ j : Nat, -50000 ≤ totalOf p l (j : Int) ∧ totalOf p l (j : Int) ≤ 50000 := by
  by_cases h : isSheet p l = true
  · obtain ⟨h1, h2, h3⟩ := sheet_parts h
    refine ⟨?_, fun j => ?_⟩
    · rw [sumTo_congr 6 (fun j _ => totalOf_col h j)]
      exact colSums 6 l (fun r hr => ⟨(round_sum (h1 r hr)).1, (round_sum (h1 r hr)).2.1⟩)
    · rw [totalOf_col h j]
      have := colSum_bound j l (fun r hr => rd_round (h1 r hr) j)
      omega
  · have e : ∀ w, totalOf p l w = 0 := fun w => by unfold totalOf; rw [if_neg (fun z => h z.1)]
    refine ⟨?_, fun j => by rw [e]; omega⟩
    rw [sumTo_congr 6 (fun j _ => e j)]
    exact sumTo_zero 6
theorem ahead_max (t : Int → Int) : ∀ (n : Nat) (b i : Int), (aheadF t n b i = b ∨ (i ≤ aheadF t n b i ∧ aheadF t n b i < i + n)) ∧ t b ≤ t (aheadF t n b i) ∧ ∀ j, i ≤ j → j < i + n → t j ≤ t (aheadF t n b i)
  | 0, b, i => ⟨.inl rfl, Int.le_refl _, fun j h1 h2 => by omega⟩
  | n + 1, b, i => by
    unfold aheadF
    have h := ahead_max t n (if t i > t b then i else b) (i + 1)
    generalize aheadF t n (if t i > t b then i else b) (i + 1) = r at h
    obtain ⟨h1, h2, h3⟩ := h
    refine ⟨?_, ?_, fun j h4 h5 => ?_⟩
    · rcases h1 with h1 | h1
      · split at h1
        · right; omega
        · left; exact h1
      · right; omega
    · split at h2 <;> omega
    · by_cases e : j = i
      · subst e; split at h2 <;> omega
      · exact h3 j (by omega) (by omega)
theorem ahead_all {p : Int} {l : List (List Int)} (h : 0 ≤ aheadIn p l) : (2 ≤ p ∧ p ≤ 6) ∧ aheadIn p l < p ∧ ∀ j, 0 ≤ j → j < p → totalOf p l j ≤ totalOf p l (aheadIn p l) := by
  unfold aheadIn at h ⊢
  by_cases hs : isSheet p l = true
  · rw [if_pos hs] at h ⊢
    have hp := isSheet_p hs
    have := ahead_max (totalOf p l) (p - 1).toNat 0 1
    refine ⟨hp, by omega, fun j h1 h2 => ?_⟩
    by_cases e : j = 0
    · rw [e]; exact this.2.1
    · exact this.2.2 j (by omega) (by omega)
  · rw [if_neg hs] at h; omega
theorem map_lin (c S : Int) : ∀ v : List Int, (v.map (fun x => c * x - S)).sum = c * v.sum - (v.length : Int) * S
  | [] => by simp
  | x :: v => by
    rw [List.map_cons, List.sum_cons, map_lin c S v, List.sum_cons, List.length_cons, Int.mul_add, Int.natCast_add, Int.add_mul]
    omega
theorem sum_bound : ∀ v : List Int, (∀ x ∈ v, 0 ≤ x ∧ x ≤ 200) → 0 ≤ v.sum ∧ v.sum ≤ 200 * (v.length : Int)
  | [], _ => by simp
  | x :: v, h => by
    have hx := h x (by simp)
    have := sum_bound v (fun y hy => h y (by simp [hy]))
    rw [List.sum_cons, List.length_cons]
    omega
theorem fromTricks_sum (w : List Int) : wsum 0 (fromTricks w) = 0 ∧ (fromTricks w = [] ∨ (fromTricks w).length = w.length) := by
  unfold fromTricks
  split
  · rename_i h
    obtain ⟨h1, h2⟩ := h
    rw [inR_iff] at h1
    rw [List.all_eq_true] at h2
    have h3 : ∀ x ∈ w, 0 ≤ x ∧ x ≤ 200 := fun x hx => (inR_iff _ _ _).1 (h2 x hx)
    have hb := sum_bound w h3
    have e0 : wsum 0 w = w.sum := by rw [wsum_exact w 0 (fun x hx => by have := h3 x hx; omega) (by omega) (by omega)]; omega
    have e1 : ∀ x ∈ w, wrap64 (wrap64 ((w.length : Int) * x) - wsum 0 w) = (w.length : Int) * x - w.sum ∧ -1200 ≤ (w.length : Int) * x - w.sum ∧ (w.length : Int) * x - w.sum ≤ 1200 := by
      intro x hx
      have hx2 := h3 x hx
      have hm : 0 ≤ (w.length : Int) * x ∧ (w.length : Int) * x ≤ 1200 := by
        refine ⟨Int.mul_nonneg (by omega) hx2.1, ?_⟩
        exact Int.le_trans (Int.mul_le_mul h1.2 hx2.2 hx2.1 (by omega)) (by decide)
      rw [e0]
      generalize (w.length : Int) * x = q at hm
      rw [w64 q (by omega), w64 (q - w.sum) (by omega)]
      omega
    have e2 : w.map (fun x => wrap64 (wrap64 ((w.length : Int) * x) - wsum 0 w)) = w.map (fun x => (w.length : Int) * x - w.sum) := List.map_congr_left (fun x hx => (e1 x hx).1)
    refine ⟨?_, .inr (by simp)⟩
    rw [e2, wsum_exact _ 0 (fun y hy => ?_) (by simp; omega) (by simp; omega), map_lin]
    · omega
    · obtain ⟨x, hx, rfl⟩ := List.mem_map.1 hy
      have := (e1 x hx).2
      omega
  · exact ⟨rfl, .inl rfl⟩
theorem FnSheets : laws_FnSheets.Pure := by
  intro b hb _ _
  refine Ev.rounds ?_
  simp only [laws_FnSheets.f, laws_big_eq, Option.bind_some]
  refine ev_ite (fun _ => Ev.now _) (fun h => ?_)
  simp only [decide_eq_true_eq] at h
  have hb2 : b.length ≤ 140737488351232 := by omega
  -- the end: what FromTricks gives sums to nothing
  have fin : ∀ (p : Int) (x : List (List Int)) (a i : Int), Ev (fun k => laws_FnSheets.j3 k b p x 0 a i false) true := by
    intro p x a i
    refine ev_unfold (fun k => rfl) ?_
    simp only [laws_FnSheets.j3]
    refine ev_neg (by simp) (EvP.use (spec_DrawFromTricks_ev b hb2) (fun w hw => Ev.bind (impl_FromTricks_ev w (by omega)) (ev_pos trivial ?_)))
    obtain ⟨h1, h2⟩ := fromTricks_sum w
    have hl := fromTricks_length w
    refine Ev.bind (laws_sum_ev _ (by omega)) (ev_pos h1 (ev_ite (fun _ => Ev.now _) (fun h3 => ev_ret ?_)))
    rcases h2 with h2 | h2
    · rw [h2] at h3; simp at h3
    · simp [h2]
  -- nobody has more than who is ahead
  have l1 : ∀ (p : Int) (x : List (List Int)), (-9223372036854775808 ≤ p ∧ p ≤ 9223372036854775807) → x.length ≤ 100 → (∀ r ∈ x, r.length ≤ 100) → Ev (fun k => laws_FnSheets.l1 k b p x 0 (aheadIn p x) 0) true := by
    intro p x hp hx hxr
    by_cases h0 : 0 ≤ aheadIn p x
    · obtain ⟨h1, h2, h3⟩ := ahead_all h0
      have key : ∀ (d : Nat) (i : Int), 0 ≤ i → i + d = p → Ev (fun k => laws_FnSheets.l1 k b p x 0 (aheadIn p x) i) true := by
        intro d
        induction d with
        | zero =>
          intro i hi hd
          refine ev_unfold (fun k => rfl) ?_
          simp only [laws_FnSheets.l1]
          exact ev_neg (by omega) (fin _ _ _ _)
        | succ d ih =>
          intro i hi hd
          refine ev_unfold (fun k => rfl) ?_
          simp only [laws_FnSheets.l1]
          refine ev_pos (by omega) (ev_unfold (fun k => rfl) ?_)
          simp only [laws_FnSheets.j3]
          rw [w64 (i + 1) (by omega)]
          refine ev_pos (by simp; omega) (Ev.bind (impl_TotalOf_ev p x i (by omega) (fun r hr => by have := hxr r hr; omega) hp) (Ev.bind (impl_TotalOf_ev p x _ (by omega) (fun r hr => by have := hxr r hr; omega) hp) (ev_neg (by have := h3 i hi (by omega); omega) (ih _ (by omega) (by omega)))))
      exact key p.toNat 0 (by omega) (by omega)
    · refine ev_unfold (fun k => rfl) ?_
      simp only [laws_FnSheets.l1]
      have e : decide (aheadIn p x ≥ 0) = false := decide_eq_false (by omega)
      rw [e]
      exact ev_ite (fun _ => fin _ _ _ _) (fun _ => fin _ _ _ _)
  have l0 : ∀ (p : Int) (x : List (List Int)), (-9223372036854775808 ≤ p ∧ p ≤ 9223372036854775807) → x.length ≤ 100 → (∀ r ∈ x, r.length ≤ 100) → Ev (fun k => laws_FnSheets.l0 k b p x 0 0) true := by
    intro p x hp hx hxr
    obtain ⟨t0, t1⟩ := totals_zero p x
    refine ev_loopN (fun k (s : Int) i => laws_FnSheets.l0 k b p x s i) 6 (fun _ _ => true) (fun s i => s = sumTo (fun j => totalOf p x (j : Int)) i ∧ -50000 * (i : Int) ≤ s ∧ s ≤ 50000 * (i : Int)) ?_ ?_ 0 0 (by omega) ⟨rfl, by omega, by omega⟩
    · rintro s ⟨hs, _, _⟩
      rw [t0] at hs
      refine ev_unfold (fun k => rfl) ?_
      simp only [laws_FnSheets.l0]
      refine ev_neg (by omega) (Ev.bind (impl_AheadIn_ev p x (by omega) (fun r hr => by have := hxr r hr; omega)) ?_)
      rw [hs]
      exact l1 p x hp hx hxr
    · rintro s i hi ⟨hs, h1, h2⟩ ih
      refine ev_unfold (fun k => rfl) ?_
      simp only [laws_FnSheets.l0]
      rw [w64next i (by omega)]
      refine ev_pos (by omega) (Ev.bind (impl_TotalOf_ev p x i (by omega) (fun r hr => by have := hxr r hr; omega) hp) ?_)
      have := t1 i
      rw [w64 _ (by omega)]
      exact ih _ ⟨by rw [hs]; rfl, by omega, by omega⟩
  have j0 : ∀ (p : Int) (x : List (List Int)), (-9223372036854775808 ≤ p ∧ p ≤ 9223372036854775807) → x.length ≤ 100 → (∀ r ∈ x, r.length ≤ 100) → Ev (fun k => laws_FnSheets.j0 k b p x false) true := by
    intro p x hp hx hxr
    refine ev_unfold (fun k => rfl) ?_
    simp only [laws_FnSheets.j0]
    exact ev_neg (by simp) (l0 p x hp hx hxr)
  refine EvP.use (spec_DrawAddRound_ev b hb2) (fun r hr => ?_)
  obtain ⟨h1, h2, h3, h4⟩ := hr
  refine Ev.bind (impl_AddRound_ev r.1 r.2.1 r.2.2 (by omega) (fun x hx => by have := h3 x hx; omega) (by omega)) ?_
  have hlr : ∀ x ∈ r.2.1 ++ [r.2.2], x.length ≤ 100 := by
    intro x hx
    rcases List.mem_append.1 hx with hx | hx
    · exact h3 x hx
    · rw [List.mem_singleton.1 hx]; exact h4
  by_cases hs : isSheet r.1 (r.2.1 ++ [r.2.2]) = true
  · simp only [if_pos hs, if_true]
    refine Ev.bind (impl_IsSheet_ev r.1 _ (by simp; omega) (fun x hx => by have := hlr x hx; omega)) ?_
    rw [hs]
    refine ev_pos (by trivial) (ev_pos (by rw [w64 _ (by omega)]; simp) (Ev.bind (impl_IsRound_ev r.1 r.2.2 (by omega)) ?_))
    have hround := (sheet_parts hs).1 r.2.2 (by simp)
    rw [hround]
    exact ev_pos rfl (j0 _ _ (by omega) (by simp; omega) hlr)
  · simp only [if_neg hs]
    refine ev_neg (by simp) ?_
    have e : ((r.2.1.length : Int) != (r.2.1.length : Int)) = false := by simp
    rw [e]
    exact j0 _ _ (by omega) (by omega) h3

end Go.Proofs.Ytjnepcpjhhebaaa.Pure
