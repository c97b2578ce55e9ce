/- In the given program FnPatterns answers true for every input, by what its functions compute; no condition. -/
import Derived.Test.YtecjbogconeilaaQFnPatternsx8
import Derived.Test.YtecjbogconeilaaLib
import Derived.Test.YtecjbogconeilaaCards
import Derived.Test.YtecjbogconeilaaCards2
import Derived.Test.YtecjbogconeilaaCalls
import Derived.Test.YtecjbogconeilaaHands
import Derived.Test.YtecjbogconeilaaPats
import Derived.Test.YtecjbogconeilaaDraw
import Derived.Test.YtecjbogconeilaaAsc
import Derived.Test.YtecjbogconeilaaDeal
namespace Go.Proofs.Ytecjbogconeilaa.Pure
open Go.RowKit Go.Proofs.Ytecjbogconeilaa.QFnPatterns Go.Proofs.YtecjbogconeilaaW.PrintWords Go.Proofs.YtecjbogconeilaaW.PrintLast Go.Proofs.YtecjbogconeilaaW.PrintMore Go.Proofs.Ytecjbogconeilaa.Lib
set_option linter.unusedVariables false
set_option linter.unusedSimpArgs false

theorem laws_big_eq (l : List Int) : laws_big.f l = some (decide ((l.length : Int) > 1048576)) := rfl

theorem impl_InRange_eq (n a b : Int) : impl_InRange.f n a b = some (inR n a b) := by
  unfold impl_InRange.f inR
  by_cases h : a ≤ n
  · rw [if_pos (by omega)]; simp [h]
  · rw [if_neg (by omega)]; simp [h]

theorem impl_isTest_eq (s : Int) : impl_isTest.f s = some (isLeaf s) := by
  unfold impl_isTest.f isLeaf
  simp only [impl_InRange_eq, Option.bind_some]
  repeat' split
  all_goals simp_all

theorem impl_IsPattern_ev (l : List Int) (hl : l.length ≤ 1048576000) : Ev (fun k => impl_IsPattern.f k l) (isPattern l) := by
  simp only [impl_IsPattern.f]
  refine ev_loop (fun k (s : Int) i => impl_IsPattern.l0 k l s l (l.length : Int) i) l (fun s r => decide (patF s r = some 1) && decide (l.length ≤ 20)) (fun s i => 0 ≤ s ∧ s ≤ i) ?_ ?_ 0 0 (by omega) ⟨by omega, by omega⟩
  · rintro s ⟨h1, h2⟩
    refine ev_unfold (fun k => rfl) ?_
    simp only [impl_IsPattern.l0, impl_InRange_eq, Option.bind_some]
    refine ev_neg (by omega) ?_
    refine ev_ite (fun h => ev_ret ?_) (fun h => ev_ret ?_)
    · rw [inR_iff] at h
      simp [patF]
      by_cases h5 : s = 1
      · simp [h5]; omega
      · simp [h5]
    · rw [inR_iff] at h
      simp [patF]; omega
  · rintro s i hi ⟨h1, h2⟩ ih
    have j1 : ∀ b, (b = true → Ev (fun k => impl_IsPattern.l0 k l s l (l.length : Int) ((i + 1 : Nat) : Int)) (decide (patF s (l.drop (i + 1)) = some 1) && decide (l.length ≤ 20))) → Ev (fun k => impl_IsPattern.j1 k l s l[i] l (l.length : Int) i b) (if b = true then (decide (patF s (l.drop (i + 1)) = some 1) && decide (l.length ≤ 20)) else if l[i] = -2 ∨ l[i] = -3 then (if s ≥ 2 then (decide (patF (s - 1) (l.drop (i + 1)) = some 1) && decide (l.length ≤ 20)) else false) else false) := by
      intro b hb
      refine ev_unfold (fun k => rfl) ?_
      simp only [impl_IsPattern.j1]
      rw [w64next i (by omega), w64 (s - 1) (by omega)]
      refine ev_ite (fun h => ?_) (fun h => ?_)
      · rw [if_pos h]; exact hb h
      · rw [if_neg h]
        refine ev_ite (fun h2 => ?_) (fun h2 => ?_)
        · rw [if_pos (.inl h2)]
          refine ev_ite (fun h3 => ?_) (fun h3 => ?_)
          · rw [if_pos h3]; exact ih _ ⟨by omega, by omega⟩
          · rw [if_neg h3]; exact Ev.now _
        · refine ev_ite (fun h4 => ?_) (fun h4 => ?_)
          · rw [if_pos (.inr h4)]
            refine ev_ite (fun h3 => ?_) (fun h3 => ?_)
            · rw [if_pos h3]; exact ih _ ⟨by omega, by omega⟩
            · rw [if_neg h3]; exact Ev.now _
          · rw [if_neg (by omega)]; exact Ev.now _
    refine ev_unfold (fun k => rfl) ?_
    simp only [impl_IsPattern.l0]
    refine ev_pos (by omega) (ev_pos (by omega) (ev_pos (by omega) (ev_eq (impl_isTest_eq _) ?_)))
    rw [w64next i (by omega), rd_at l i hi, w64 (s + 1) (by omega)]
    unfold patF
    refine ev_ite (fun h => ?_) (fun h => ?_)
    · rw [if_pos h]; exact ih _ ⟨by omega, by omega⟩
    · rw [if_neg h]
      refine ev_ite (fun h2 => ?_) (fun h2 => ?_)
      · rw [if_pos h2]
        refine ev_done (j1 _ (fun _ => ih _ ⟨by omega, by omega⟩)) ?_
        by_cases h3 : s ≥ 1
        · simp [h3]
        · simp [h3]; omega
      · rw [if_neg h2]
        refine ev_done (j1 _ (fun h => by cases h)) ?_
        simp only [Bool.false_eq_true, if_false]
        by_cases h3 : l[i] = -2 ∨ l[i] = -3
        · rw [if_pos h3, if_pos h3]
          by_cases h4 : s ≥ 2
          · rw [if_pos h4, if_pos h4]
          · rw [if_neg h4, if_neg h4]; simp
        · rw [if_neg h3, if_neg h3]; simp

theorem laws_sameInts_ev (a b : List Int) (hl : a.length ≤ 1048576000) : Ev (fun k => laws_sameInts.f k a b) (decide (a = b)) := by
  simp only [laws_sameInts.f]
  refine ev_ite (fun h => ?_) (fun h => ev_ret ?_)
  · have hlen : a.length = b.length := by omega
    have key : ∀ (d i : Nat), i + d = a.length → a.take i = b.take i → Ev (fun k => laws_sameInts.l0 k a b (i : Int)) (decide (a = b)) := by
      intro d
      induction d with
      | zero =>
        intro i hd ht
        refine ev_unfold (fun k => rfl) ?_
        simp only [laws_sameInts.l0]
        refine ev_neg (by omega) (ev_ret ?_)
        rw [List.take_of_length_le (by omega), List.take_of_length_le (by omega)] at ht
        simp [ht]
      | succ d ih =>
        intro i hd ht
        refine ev_unfold (fun k => rfl) ?_
        simp only [laws_sameInts.l0]
        rw [w64next i (by omega), rd_at a i (by omega), rd_at b i (by omega)]
        refine ev_pos (by omega) (ev_pos (by omega) (ev_pos (by omega) (ev_ite (fun h2 => ih (i + 1) (by omega) ?_) (fun h2 => ev_ret ?_))))
        · rw [take_at a i (by omega), take_at b i (by omega), ht, h2]
        · refine (decide_eq_false ?_).symm
          intro e
          subst e
          exact h2 rfl
    exact key a.length 0 (by omega) (by simp)
  · exact (decide_eq_false (fun e => h (by rw [e]))).symm

theorem laws_ascends_ev (l : List Int) (hl : l.length ≤ 1048576000) : Ev (fun k => laws_ascends.f k l) (ascB l) := by
  have key : ∀ (d i : Nat), 1 ≤ i → l.length ≤ i + d → Ev (fun k => laws_ascends.l0 k l (i : Int)) (ascFrom l i) := by
    intro d
    induction d with
    | zero =>
      intro i h1 hd
      refine ev_unfold (fun k => rfl) ?_
      simp only [laws_ascends.l0]
      refine ev_neg (by omega) (ev_ret ?_)
      exact (ascFrom_end (by omega)).symm
    | succ d ih =>
      intro i h1 hd
      refine ev_unfold (fun k => rfl) ?_
      simp only [laws_ascends.l0]
      refine ev_ite (fun h => ?_) (fun h => ev_ret (ascFrom_end (by omega)).symm)
      have hi : i < l.length := by omega
      have e : wrap64 ((i : Int) - 1) = ((i - 1 : Nat) : Int) := by rw [w64 _ (by omega)]; omega
      rw [e, w64next i (by omega), rd_at l i hi, rd_at l (i - 1) (by omega)]
      refine ev_pos (by omega) (ev_pos (by omega) (ev_pos (by omega) (ev_ite (fun h2 => ev_ret ?_) (fun h2 => ?_))))
      · rw [ascFrom_step hi (by omega)]
        rw [decide_eq_false (by omega)]; rfl
      · rw [ascFrom_step hi (by omega), decide_eq_true (by omega), Bool.true_and]
        exact ih (i + 1) (by omega) (by omega)
  simp only [laws_ascends.f]
  exact key l.length 1 (by omega) (by omega)

theorem laws_contains_ev (l : List Int) (c : Int) (hl : l.length ≤ 1048576000) : Ev (fun k => laws_contains.f k l c) (decide (c ∈ l)) := by
  simp only [laws_contains.f]
  refine ev_done (ev_loop (fun k (_ : Unit) i => laws_contains.l0 k l c i) l (fun _ r => decide (c ∈ r)) (fun _ _ => True) ?_ ?_ () 0 (by omega) trivial) (by simp)
  · rintro s _
    refine ev_unfold (fun k => rfl) ?_
    simp only [laws_contains.l0]
    exact ev_neg (by omega) (ev_ret (by simp))
  · rintro s i hi _ ih
    refine ev_unfold (fun k => rfl) ?_
    simp only [laws_contains.l0]
    rw [w64next i (by omega), rd_at l i hi]
    refine ev_pos (by omega) (ev_pos (by omega) (ev_ite (fun h => ev_ret ?_) (fun h => ev_done (ih () trivial) ?_)))
    · rw [h]; simp
    · refine decide_eq_decide.2 ⟨fun h2 => List.mem_cons_of_mem _ h2, fun h2 => (List.mem_cons.1 h2).resolve_left (fun e => h e.symm)⟩

theorem spec_l1New_ev (l : List Int) (hl : l.length ≤ 140737488351232) : EvP (fun k => spec_l1New.f k l) (fun r => r.1 = l ∧ Cur l r.2.1) := by
  have key : ∀ (d i : Nat) (h : Int), i + d = l.length → EvP (fun k => spec_l1New.l0 k l h (i : Int)) (fun r => r.1 = l ∧ Cur l r.2.1) := by
    intro d
    induction d with
    | zero =>
      intro i h hd
      refine EvP.unfold (fun k => rfl) ?_
      simp only [spec_l1New.l0]
      exact EvP.neg (by omega) (EvP.now ⟨rfl, by unfold Cur; simp only; omega⟩)
    | succ d ih =>
      intro i h hd
      refine EvP.unfold (fun k => rfl) ?_
      simp only [spec_l1New.l0]
      refine EvP.pos (by omega) (EvP.ite (fun _ => EvP.pos (by omega) ?_) (fun _ => EvP.now ⟨rfl, by unfold Cur; simp only; omega⟩))
      rw [w64next i (by omega)]
      exact ih (i + 1) _ (by omega)
  simp only [spec_l1New.f]
  exact key l.length 0 _ (by omega)

theorem spec_l1Byte_ok (b : List Int) (i h : Int) (hc : Cur b i) : OkP (spec_l1Byte.f b i h) (fun r => 0 ≤ r.1 ∧ r.1 ≤ 255 ∧ Cur b r.2.1) := by
  obtain ⟨h0, h1, h2⟩ := hc
  unfold spec_l1Byte.f
  refine OkP.ite (fun h3 => OkP.pos h0 (OkP.now ?_)) (fun h3 => OkP.now ?_)
  · have := and_mask (wrap64 ((Go.bits .and .i64 (Go.bits .xor .i64 ((wrap64 ((wrap64 (h * 6364136223846793005)) + 1442695040888963407)) / 8589934592) ((wrap64 ((wrap64 (h * 6364136223846793005)) + 1442695040888963407)) / 140737488355328)) 255) + (wrap64 (rd b i)))) 255 (by omega)
    refine ⟨this.1, this.2, ?_⟩
    unfold Cur
    simp only
    rw [w64 _ (by omega)]
    omega
  · have := and_mask (Go.bits .xor .i64 ((wrap64 ((wrap64 (h * 6364136223846793005)) + 1442695040888963407)) / 8589934592) ((wrap64 ((wrap64 (h * 6364136223846793005)) + 1442695040888963407)) / 140737488355328)) 255 (by omega)
    exact ⟨this.1, this.2, h0, h1, h2⟩

theorem spec_l1Below_ok (b : List Int) (i h n : Int) (hc : Cur b i) (hn : n ≤ 1000000000) : OkP (spec_l1Below.f b i h n) (fun r => 0 ≤ r.1 ∧ (0 < n → r.1 < n) ∧ (n ≤ 0 → r.1 = 0) ∧ Cur b r.2.1) := by
  unfold spec_l1Below.f
  refine OkP.ite (fun h1 => OkP.now ⟨Int.le_refl 0, fun h => absurd h (by omega), fun _ => rfl, hc⟩) (fun h1 => OkP.ite (fun h2 => ?_) (fun h2 => ?_))
  · refine (spec_l1Byte_ok b i h hc).bind (fun r hr => OkP.neg (by omega) (OkP.now ?_))
    have := tmod_range (x := r.1) (n := n) hr.1 (by omega)
    exact ⟨this.1, fun _ => this.2, fun h => absurd h h1, hr.2.2⟩
  · refine (spec_l1Byte_ok b i h hc).bind (fun r hr => (spec_l1Byte_ok b _ _ hr.2.2).bind (fun s hs => (spec_l1Byte_ok b _ _ hs.2.2).bind (fun t ht => OkP.neg (by omega) (OkP.now ?_))))
    have e : wrap64 ((wrap64 ((wrap64 (r.1 * 65536)) + (wrap64 (s.1 * 256)))) + t.1) = r.1 * 65536 + s.1 * 256 + t.1 := by
      rw [w64 (r.1 * 65536) (by omega), w64 (s.1 * 256) (by omega), w64 (r.1 * 65536 + s.1 * 256) (by omega), w64 _ (by omega)]
    simp only
    rw [e]
    have := tmod_range (x := r.1 * 65536 + s.1 * 256 + t.1) (n := n) (by omega) (by omega)
    exact ⟨this.1, fun _ => this.2, fun h => absurd h h1, ht.2.2⟩

theorem spec_l1Once_ok (b : List Int) (i h n : Int) (hc : Cur b i) (hn : n ≤ 1000000000) : OkP (spec_l1Once.f b i h n) (fun r => Cur b r.2.1) := by
  unfold spec_l1Once.f
  exact (spec_l1Below_ok b i h n hc hn).bind (fun r hr => OkP.now hr.2.2.2)

theorem spec_l1Int_ok (b : List Int) (i h : Int) (l : List Int) (hc : Cur b i) (h0 : 0 < l.length) (hl : l.length ≤ 1000000000) : OkP (spec_l1Int.f b i h l) (fun r => r.1 ∈ l ∧ Cur b r.2.1) := by
  unfold spec_l1Int.f
  refine (spec_l1Below_ok b i h (l.length : Int) hc (by omega)).bind (fun r hr => OkP.pos hr.1 (OkP.pos (hr.2.1 (by omega)) (OkP.now ⟨?_, hr.2.2.2⟩)))
  obtain ⟨j, hj⟩ : ∃ j : Nat, r.1 = (j : Int) := ⟨r.1.toNat, by have := hr.1; omega⟩
  have hj2 : j < l.length := by have := hr.2.1 (by omega); omega
  simp only
  rw [hj, rd_at l j hj2]
  exact List.getElem_mem hj2

theorem spec_l8Leaves_ok (b : List Int) (i h : Int) (hc : Cur b i) : OkP (spec_l8Leaves.f b i h) (fun r => Cur b r.2.1) := by
  unfold spec_l8Leaves.f
  exact (spec_l1Below_ok b i h 4 hc (by omega)).bind (fun r hr => (spec_l1Below_ok b _ _ 13 hr.2.2.2 (by omega)).bind (fun s hs => (spec_l1Below_ok b _ _ 13 hs.2.2.2 (by omega)).bind (fun t ht => (spec_l1Int_ok b _ _ _ ht.2.2.2 (by simp) (by simp)).bind (fun u hu => OkP.now hu.2))))

theorem spec_l8Draw_ev (b : List Int) : ∀ (d : Nat), d ≤ 2 → ∀ (i h : Int), Cur b i → EvP (fun k => spec_l8Draw.f k b i h (d : Int)) (fun r => 1 ≤ r.1.length ∧ r.1.length ≤ 7 ∧ r.1.length + 1 ≤ 2 ^ (d + 1) ∧ Cur b r.2.1) := by
  have leaf : ∀ (a i h : Int) (d : Nat), Cur b i → EvP (fun k => spec_l8Draw.j0 k a true b i h) (fun r => 1 ≤ r.1.length ∧ r.1.length ≤ 7 ∧ r.1.length + 1 ≤ 2 ^ (d + 1) ∧ Cur b r.2.1) := by
    intro a i h d hc
    refine EvP.unfold (fun k => rfl) ?_
    simp only [spec_l8Draw.j0]
    refine EvP.pos trivial (EvP.bind (spec_l8Leaves_ok b i h hc).ev (fun r hr => EvP.now ⟨by simp, by simp, ?_, hr⟩))
    have : 2 ^ 1 ≤ 2 ^ (d + 1) := Nat.pow_le_pow_right (by omega) (by omega)
    simpa using this
  intro d
  induction d with
  | zero =>
    intro _ i h hc
    refine EvP.unfold (fun k => rfl) ?_
    simp only [spec_l8Draw.f]
    exact EvP.pos rfl (leaf _ i h 0 hc)
  | succ d ih =>
    intro hd i h hc
    have ih := ih (by omega)
    refine EvP.unfold (fun k => rfl) ?_
    simp only [spec_l8Draw.f]
    refine EvP.neg (by omega) (EvP.bind (spec_l1Once_ok b i h 4 hc (by omega)).ev (fun r hr => ?_))
    obtain ⟨o, i2, h2⟩ := r
    cases o with
    | true => exact leaf _ i2 h2 (d + 1) hr
    | false =>
      refine EvP.unfold (fun k => rfl) ?_
      simp only [spec_l8Draw.j0]
      refine EvP.neg (by simp) (EvP.bind (spec_l1Once_ok b i2 h2 4 hr (by omega)).ev (fun s hs => ?_))
      have e : wrap64 (((d + 1 : Nat) : Int) - 1) = (d : Int) := by rw [w64 _ (by omega)]; omega
      have e7 : 2 ^ (d + 1 + 1) = 2 * 2 ^ (d + 1) := by rw [Nat.pow_succ 2 (d + 1)]; omega
      have e8 : 2 ^ (d + 1) ≤ 2 ^ 2 := Nat.pow_le_pow_right (by omega) (by omega)
      rw [e]
      refine EvP.ite (fun _ => ?_) (fun _ => ?_)
      · refine EvP.bind (ih s.2.1 s.2.2 hs) (fun t ht => EvP.pos (by omega) (EvP.now ⟨?_, ?_, ?_, ht.2.2.2⟩))
        · simp
        · simp only [List.length_append, List.length_cons, List.length_nil]; omega
        · simp only [List.length_append, List.length_cons, List.length_nil]; omega
      · refine EvP.bind (ih s.2.1 s.2.2 hs) (fun t ht => EvP.bind (ih t.2.1 t.2.2 ht.2.2.2) (fun u hu => EvP.pos (by omega) ?_))
        simp only [Option.bind_some]
        refine EvP.bind (spec_l1Below_ok b _ _ 2 hu.2.2.2 (by omega)).ev (fun v hv => EvP.pos (by rw [List.length_append]; omega) (EvP.now ⟨?_, ?_, ?_, hv.2.2.2⟩))
        · simp; omega
        · simp only [List.length_append, List.length_cons, List.length_nil]; omega
        · simp only [List.length_append, List.length_cons, List.length_nil]; omega

theorem spec_l8Any_ev (b : List Int) (i h : Int) (hc : Cur b i) : EvP (fun k => spec_l8Any.f k b i h) (fun r => r.1.length ≤ 7 ∧ Cur b r.2.1) := by
  simp only [spec_l8Any.f]
  refine EvP.bind (spec_l8Draw_ev b 2 (by omega) i h hc) (fun r hr => EvP.bind (spec_l1Below_ok b _ _ 10 hr.2.2.2 (by omega)).ev (fun s hs => EvP.ite (fun _ => ?_) (fun _ => EvP.ite (fun _ => ?_) (fun _ => EvP.now ⟨hr.2.1, hs.2.2.2⟩))))
  · refine EvP.bind (spec_l1Below_ok b _ _ (r.1.length : Int) hs.2.2.2 (by omega)).ev (fun t ht => EvP.bind (spec_l1Int_ok b _ _ _ ht.2.2.2 (by simp) (by simp)).ev (fun u hu => EvP.pos ht.1 (EvP.pos (ht.2.1 (by omega)) (EvP.now ⟨?_, hu.2⟩))))
    simp only [List.length_set]; exact hr.2.1
  · refine EvP.pos (by omega) (EvP.now ⟨?_, hs.2.2.2⟩)
    simp only [List.length_drop]; omega

theorem spec_DrawIsPattern_ev (l : List Int) (hl : l.length ≤ 140737488351232) : EvP (fun k => spec_DrawIsPattern.f k l) (fun r => r.length ≤ 7) := by
  simp only [spec_DrawIsPattern.f]
  refine EvP.bind (spec_l1New_ev l hl) (fun r hr => ?_)
  have hc : Cur r.1 r.2.1 := by rw [hr.1]; exact hr.2
  exact EvP.bind (spec_l8Any_ev r.1 r.2.1 r.2.2 hc) (fun s hs => EvP.now hs.1)

theorem spec_DrawNotPattern_ev (l : List Int) (hl : l.length ≤ 140737488351232) : EvP (fun k => spec_DrawNotPattern.f k l) (fun r => r.length ≤ 7) := by
  simp only [spec_DrawNotPattern.f]
  exact EvP.bind (spec_DrawIsPattern_ev l hl) (fun r hr => EvP.now hr)

theorem impl_copyOf_eq (l : List Int) (hl : l.length ≤ 1048576000) : impl_copyOf.f l = some l := by
  unfold impl_copyOf.f
  simp only [Option.bind_some, List.length_nil, List.nil_append]
  rw [if_pos (by omega)]

theorem impl_NotPattern_ev (l : List Int) (hl : l.length ≤ 1048575999) : Ev (fun k => impl_NotPattern.f k l) (notPattern l) := by
  simp only [impl_NotPattern.f, impl_copyOf_eq l (by omega), Option.bind_some]
  unfold notPattern
  refine ev_pos (by omega) (Ev.bind (impl_IsPattern_ev _ (by simp; omega)) ?_)
  refine ev_ite (fun h => ev_ret ?_) (fun h => ev_ret ?_)
  · rw [if_pos h]
  · rw [if_neg h]

theorem impl_IsCard_eq (c : Int) : impl_IsCard.f c = some (isCard c) := by
  unfold impl_IsCard.f isCard
  rw [impl_InRange_eq]; rfl

theorem impl_SuitOf_eq (c : Int) : impl_SuitOf.f c = some (suitOf c) := by
  unfold impl_SuitOf.f suitOf
  rw [impl_IsCard_eq]
  simp only [Option.bind_some]
  by_cases h : isCard c = true
  · have h2 := (isCard_iff c).1 h
    rw [if_pos h, if_pos h, Int.tdiv_eq_ediv_of_nonneg h2.1, w64 _ (by omega)]
  · rw [if_neg h, if_neg h]

theorem impl_RankOf_eq (c : Int) : impl_RankOf.f c = some (rankOf c) := by
  unfold impl_RankOf.f rankOf
  rw [impl_IsCard_eq]
  simp only [Option.bind_some]
  by_cases h : isCard c = true
  · rw [if_pos h, if_pos h, Int.tmod_eq_emod_of_nonneg ((isCard_iff c).1 h).1]
  · rw [if_neg h, if_neg h]

theorem impl_IsRed_eq (c : Int) : impl_IsRed.f c = some (isRed c) := by
  simp only [impl_IsRed.f, impl_SuitOf_eq, Option.bind_some]
  unfold isRed
  by_cases h : suitOf c = 1
  · rw [if_pos h, h]; rfl
  · rw [if_neg h]
    have e : (suitOf c == 2) = inR (suitOf c) 1 2 := by
      by_cases h2 : suitOf c = 2
      · rw [h2]; rfl
      · rw [(inR_no _ _ _).2 (by omega)]; simp [h2]
    rw [e]

theorem impl_asks_eq (s c : Int) (hs : -1000 ≤ s ∧ s ≤ 1000) : impl_asks.f s c = some (asksOf s c) := by
  simp only [impl_asks.f, impl_IsRed_eq, impl_RankOf_eq, impl_SuitOf_eq, Option.bind_some]
  unfold asksOf
  by_cases h : s = 400
  · rw [if_pos h, if_pos h]
  rw [if_neg h, if_neg h]
  by_cases h2 : s ≥ 300
  · rw [if_pos h2, if_pos h2, w64 _ (by omega)]
  rw [if_neg h2, if_neg h2]
  by_cases h3 : s ≥ 200
  · rw [if_pos h3, if_pos h3, w64 _ (by omega)]; rfl
  rw [if_neg h3, if_neg h3, w64 _ (by omega)]; rfl

theorem impl_Matches_ev (p : List Int) (c : Int) (hl : p.length ≤ 1048576000) : Ev (fun k => impl_Matches.f k p c) (matchOf p c) := by
  have l0 : isPattern p = true → Ev (fun k => impl_Matches.l0 k c ([] : List Bool) p (p.length : Int) 0) ((pileF c [] p).getD 0 false) := by
    intro hp
    have h20 := isPattern_pos hp
    have hpat : patF 0 p = some 1 := by simp [isPattern] at hp; exact hp.1
    refine ev_done (ev_loop (fun k (s : List Bool) i => impl_Matches.l0 k c s p (p.length : Int) i) p (fun s r => (pileF c s r).getD 0 false) (fun s i => patF (s.length : Int) (p.drop i) = some 1 ∧ s.length ≤ i) ?_ ?_ [] 0 (by omega) ⟨by simpa using hpat, by simp⟩) rfl
    · rintro s ⟨h1, h2⟩
      rw [drop_end] at h1
      have h3 : (s.length : Int) = 1 := by simpa [patF] using h1
      refine ev_unfold (fun k => rfl) ?_
      simp only [impl_Matches.l0]
      exact ev_neg (by omega) (ev_pos (by omega) (ev_ret rfl))
    · rintro s i hi ⟨h1, h2⟩ ih
      rw [drop_at p i hi] at h1
      obtain ⟨g1, g2, g3, g4, g5, g6⟩ := step_length (c := c) h1
      have ih := ih (stepP c s p[i]) ⟨g1, by omega⟩
      have e : pileF c s (p[i] :: p.drop (i + 1)) = pileF c (stepP c s p[i]) (p.drop (i + 1)) := rfl
      rw [e]
      refine ev_unfold (fun k => rfl) ?_
      simp only [impl_Matches.l0]
      rw [w64next i (by omega), rd_at p i hi]
      refine ev_pos (by omega) (ev_pos (by omega) (ev_pos (by omega) (ev_ite (fun h => ?_) (fun h => ?_))))
      · have hs := g2 h
        rw [show wrap64 ((s.length : Int) - 1) = ((s.length - 1 : Nat) : Int) by rw [w64 _ (by omega)]; omega, Int.toNat_natCast]
        refine ev_pos (by omega) (ev_pos (by omega) ?_)
        have e2 : s.set (s.length - 1) (!(rdOf false s ((s.length - 1 : Nat) : Int))) = stepP c s p[i] := by
          unfold stepP; rw [if_pos h]; unfold rdOf; rw [Int.toNat_natCast]
        rw [e2]; exact ih
      · refine ev_ite (fun h2 => ?_) (fun h2 => ?_)
        · have hs := g3 h2
          refine ev_pos ⟨hs, by omega⟩ ?_
          have e2 : s.take (s.length - 2) ++ [s.getD (s.length - 2) false && s.getD (s.length - 1) false] = stepP c s p[i] := by
            unfold stepP; rw [if_neg h, if_pos h2]
          rw [e2]; exact ih
        · refine ev_ite (fun h3 => ?_) (fun h3 => ?_)
          · have hs := g4 h3
            refine ev_pos ⟨hs, by omega⟩ ?_
            have e2 : s.take (s.length - 2) ++ [s.getD (s.length - 2) false || s.getD (s.length - 1) false] = stepP c s p[i] := by
              unfold stepP; rw [if_neg h, if_neg h2, if_pos h3]
            rw [e2]; exact ih
          · have hL := g6 h h2 h3
            have hb : -1000 ≤ p[i] ∧ p[i] ≤ 1000 := by
              simp only [isLeaf, Bool.or_eq_true, inR_iff, beq_iff_eq] at hL; omega
            refine ev_eq (impl_asks_eq _ _ hb) (ev_pos (by omega) ?_)
            have e2 : s ++ [asksOf p[i] c] = stepP c s p[i] := by
              unfold stepP; rw [if_neg h, if_neg h2, if_neg h3]
            rw [e2]; exact ih
  have j0 : ∀ b, (b = false → isPattern p = true ∧ isCard c = true) → (b = true → ¬ (isPattern p && isCard c) = true) → Ev (fun k => impl_Matches.j0 k p c b) (matchOf p c) := by
    intro b h1 h2
    refine ev_unfold (fun k => rfl) ?_
    simp only [impl_Matches.j0]
    unfold matchOf
    refine ev_ite (fun h => ev_ret ?_) (fun h => ?_)
    · rw [if_neg (h2 h)]
    · rw [Bool.not_eq_true] at h
      obtain ⟨hp, hc⟩ := h1 h
      rw [if_pos (by rw [hp, hc]; rfl)]
      exact l0 hp
  simp only [impl_Matches.f]
  refine Ev.bind (impl_IsPattern_ev p hl) (ev_ite (fun h => ?_) (fun h => ?_))
  · refine ev_eq (impl_IsCard_eq c) (j0 _ (fun e => ⟨h, by simpa using e⟩) (fun e => ?_))
    rw [Bool.not_eq_true'] at e; rw [h, e]; simp
  · refine j0 _ (fun e => by simp at e) (fun _ => ?_)
    simp [h]

theorem impl_MatchSet_ev (p : List Int) (hp : p.length ≤ 1048576000) : Ev (fun k => impl_MatchSet.f k p) (matchSet p) := by
  have key : ∀ (m i : Nat), i + m = 52 → ∀ s : List Int, s.length ≤ i → Ev (fun k => impl_MatchSet.l0 k p s (i : Int)) (s ++ setM p i m) := by
    intro m
    induction m with
    | zero =>
      intro i h s hs
      refine ev_unfold (fun k => rfl) ?_
      simp only [impl_MatchSet.l0]
      exact ev_neg (by omega) (ev_ret (by simp [setM]))
    | succ m ih =>
      intro i h s hs
      refine ev_unfold (fun k => rfl) ?_
      simp only [impl_MatchSet.l0]
      rw [w64next i (by omega)]
      unfold setM
      refine ev_pos (by omega) (Ev.bind (impl_Matches_ev p _ hp) (ev_ite (fun h2 => ?_) (fun h2 => ?_)))
      · rw [if_pos h2]
        exact ev_pos (by omega) (ev_done (ih (i + 1) (by omega) (s ++ [(i : Int)]) (by simp; omega)) (by simp))
      · rw [if_neg h2]
        exact ih (i + 1) (by omega) s (by omega)
  simp only [impl_MatchSet.f]
  exact key 52 0 (by omega) [] (by simp)

theorem spec_l1In_eq (n a b : Int) : spec_l1In.f n a b = some (inR n a b) := by
  unfold spec_l1In.f inR
  by_cases h : a ≤ n
  · rw [if_pos (by omega)]; simp [h]
  · rw [if_neg (by omega)]; simp [h]

theorem spec_l8Leaf_eq (s : Int) : spec_l8Leaf.f s = some (isLeaf s) := by
  unfold spec_l8Leaf.f isLeaf
  simp only [spec_l1In_eq, Option.bind_some]
  repeat' split
  all_goals simp_all

theorem spec_IsPattern_ev (l : List Int) (hl : l.length ≤ 1048576000) : Ev (fun k => spec_IsPattern.f k l) (isPattern l) := by
  simp only [spec_IsPattern.f]
  refine ev_loop (fun k (s : Int) i => spec_IsPattern.l0 k l s i) l (fun s r => decide (patF s r = some 1) && decide (l.length ≤ 20)) (fun s i => 0 ≤ s ∧ s ≤ i) ?_ ?_ 0 0 (by omega) ⟨by omega, by omega⟩
  · rintro s ⟨h1, h2⟩
    refine ev_unfold (fun k => rfl) ?_
    simp only [spec_IsPattern.l0]
    refine ev_neg (by omega) ?_
    refine ev_ite (fun h => ev_ret ?_) (fun h => ev_ret ?_)
    · simp [patF, h]; omega
    · simp [patF, h]
  · rintro s i hi ⟨h1, h2⟩ ih
    have j1 : ∀ b, (b = true → Ev (fun k => spec_IsPattern.l0 k l s ((i + 1 : Nat) : Int)) (decide (patF s (l.drop (i + 1)) = some 1) && decide (l.length ≤ 20))) → Ev (fun k => spec_IsPattern.j1 k l s i b) (if b = true then (decide (patF s (l.drop (i + 1)) = some 1) && decide (l.length ≤ 20)) else if l[i] = -2 ∨ l[i] = -3 then (if s ≥ 2 then (decide (patF (s - 1) (l.drop (i + 1)) = some 1) && decide (l.length ≤ 20)) else false) else false) := by
      intro b hb
      refine ev_unfold (fun k => rfl) ?_
      simp only [spec_IsPattern.j1]
      rw [w64next i (by omega), rd_at l i hi, w64 (s - 1) (by omega)]
      refine ev_ite (fun h => ?_) (fun h => ?_)
      · rw [if_pos h]; exact hb h
      · rw [if_neg h]
        refine ev_pos (by omega) (ev_pos (by omega) ?_)
        refine ev_ite (fun h2 => ?_) (fun h2 => ?_)
        · rw [if_pos (.inl h2)]
          refine ev_ite (fun h3 => ?_) (fun h3 => ?_)
          · rw [if_pos h3]; exact ih _ ⟨by omega, by omega⟩
          · rw [if_neg h3]; exact Ev.now _
        · refine ev_ite (fun h4 => ?_) (fun h4 => ?_)
          · rw [if_pos (.inr h4)]
            refine ev_ite (fun h3 => ?_) (fun h3 => ?_)
            · rw [if_pos h3]; exact ih _ ⟨by omega, by omega⟩
            · rw [if_neg h3]; exact Ev.now _
          · rw [if_neg (by omega)]; exact Ev.now _
    refine ev_unfold (fun k => rfl) ?_
    simp only [spec_IsPattern.l0]
    refine ev_pos (by omega) (ev_pos (by omega) (ev_eq (spec_l8Leaf_eq _) ?_))
    rw [w64next i (by omega), rd_at l i hi, w64 (s + 1) (by omega)]
    unfold patF
    refine ev_ite (fun h => ?_) (fun h => ?_)
    · rw [if_pos h]; exact ih _ ⟨by omega, by omega⟩
    · rw [if_neg h]
      refine ev_ite (fun h2 => ?_) (fun h2 => ?_)
      · rw [if_pos h2]
        refine ev_done (j1 _ (fun _ => ih _ ⟨by omega, by omega⟩)) ?_
        by_cases h3 : s ≥ 1
        · simp [h3]
        · simp [h3]; omega
      · rw [if_neg h2]
        refine ev_done (j1 _ (fun h => by cases h)) ?_
        simp only [Bool.false_eq_true, if_false]
        by_cases h3 : l[i] = -2 ∨ l[i] = -3
        · rw [if_pos h3, if_pos h3]
          by_cases h4 : s ≥ 2
          · rw [if_pos h4, if_pos h4]
          · rw [if_neg h4, if_neg h4]; simp
        · rw [if_neg h3, if_neg h3]; simp

theorem spec_IsCard_eq (c : Int) : spec_IsCard.f c = some (isCard c) := by
  unfold spec_IsCard.f isCard
  rw [spec_l1In_eq]; rfl

theorem spec_SuitOf_eq (c : Int) : spec_SuitOf.f c = some (suitOf c) := by
  unfold spec_SuitOf.f suitOf
  rw [spec_IsCard_eq]
  simp only [Option.bind_some]
  by_cases h : isCard c = true
  · have h2 := (isCard_iff c).1 h
    rw [if_pos h, if_pos h, Int.tdiv_eq_ediv_of_nonneg h2.1, w64 _ (by omega)]
  · rw [if_neg h, if_neg h]

theorem spec_RankOf_eq (c : Int) : spec_RankOf.f c = some (rankOf c) := by
  unfold spec_RankOf.f rankOf
  rw [spec_IsCard_eq]
  simp only [Option.bind_some]
  by_cases h : isCard c = true
  · rw [if_pos h, if_pos h, Int.tmod_eq_emod_of_nonneg ((isCard_iff c).1 h).1]
  · rw [if_neg h, if_neg h]

theorem spec_IsRed_eq (c : Int) : spec_IsRed.f c = some (isRed c) := by
  simp only [spec_IsRed.f, spec_SuitOf_eq, spec_l1In_eq, Option.bind_some]
  rfl

theorem spec_l8Value_eq (s c : Int) (hs : -1000 ≤ s ∧ s ≤ 1000) : spec_l8Value.f s c = some (asksOf s c) := by
  simp only [spec_l8Value.f, spec_IsRed_eq, spec_RankOf_eq, spec_SuitOf_eq, Option.bind_some]
  unfold asksOf
  by_cases h : s = 400
  · rw [if_pos h, if_pos h]
  rw [if_neg h, if_neg h]
  by_cases h2 : s ≥ 300
  · rw [if_pos h2, if_pos h2, w64 _ (by omega)]
  rw [if_neg h2, if_neg h2]
  by_cases h3 : s ≥ 200
  · rw [if_pos h3, if_pos h3, w64 _ (by omega)]; rfl
  rw [if_neg h3, if_neg h3, w64 _ (by omega)]; rfl

theorem spec_Matches_ev (p : List Int) (c : Int) (hl : p.length ≤ 1048576000) : Ev (fun k => spec_Matches.f k p c) (matchOf p c) := by
  have l0 : isPattern p = true → Ev (fun k => spec_Matches.l0 k p c ([] : List Bool)  0) ((pileF c [] p).getD 0 false) := by
    intro hp
    have h20 := isPattern_pos hp
    have hpat : patF 0 p = some 1 := by simp [isPattern] at hp; exact hp.1
    refine ev_done (ev_loop (fun k (s : List Bool) i => spec_Matches.l0 k p c s  i) p (fun s r => (pileF c s r).getD 0 false) (fun s i => patF (s.length : Int) (p.drop i) = some 1 ∧ s.length ≤ i) ?_ ?_ [] 0 (by omega) ⟨by simpa using hpat, by simp⟩) rfl
    · rintro s ⟨h1, h2⟩
      rw [drop_end] at h1
      have h3 : (s.length : Int) = 1 := by simpa [patF] using h1
      refine ev_unfold (fun k => rfl) ?_
      simp only [spec_Matches.l0]
      exact ev_neg (by omega) (ev_pos (by omega) (ev_ret rfl))
    · rintro s i hi ⟨h1, h2⟩ ih
      rw [drop_at p i hi] at h1
      obtain ⟨g1, g2, g3, g4, g5, g6⟩ := step_length (c := c) h1
      have ih := ih (stepP c s p[i]) ⟨g1, by omega⟩
      have e : pileF c s (p[i] :: p.drop (i + 1)) = pileF c (stepP c s p[i]) (p.drop (i + 1)) := rfl
      rw [e]
      refine ev_unfold (fun k => rfl) ?_
      simp only [spec_Matches.l0]
      rw [w64next i (by omega), rd_at p i hi]
      refine ev_pos (by omega) (ev_pos (by omega) (ev_ite (fun h => ?_) (fun h => ?_)))
      · have hs := g2 h
        rw [show wrap64 ((s.length : Int) - 1) = ((s.length - 1 : Nat) : Int) by rw [w64 _ (by omega)]; omega, Int.toNat_natCast]
        refine ev_pos (by omega) (ev_pos (by omega) ?_)
        have e2 : s.set (s.length - 1) (!(rdOf false s ((s.length - 1 : Nat) : Int))) = stepP c s p[i] := by
          unfold stepP; rw [if_pos h]; unfold rdOf; rw [Int.toNat_natCast]
        rw [e2]; exact ih
      · refine ev_ite (fun h2 => ?_) (fun h2 => ?_)
        · have hs := g3 h2
          refine ev_pos ⟨hs, by omega⟩ ?_
          have e2 : s.take (s.length - 2) ++ [s.getD (s.length - 2) false && s.getD (s.length - 1) false] = stepP c s p[i] := by
            unfold stepP; rw [if_neg h, if_pos h2]
          rw [e2]; exact ih
        · refine ev_ite (fun h3 => ?_) (fun h3 => ?_)
          · have hs := g4 h3
            refine ev_pos ⟨hs, by omega⟩ ?_
            have e2 : s.take (s.length - 2) ++ [s.getD (s.length - 2) false || s.getD (s.length - 1) false] = stepP c s p[i] := by
              unfold stepP; rw [if_neg h, if_neg h2, if_pos h3]
            rw [e2]; exact ih
          · have hL := g6 h h2 h3
            have hb : -1000 ≤ p[i] ∧ p[i] ≤ 1000 := by
              simp only [isLeaf, Bool.or_eq_true, inR_iff, beq_iff_eq] at hL; omega
            refine ev_eq (spec_l8Value_eq _ _ hb) (ev_pos (by omega) ?_)
            have e2 : s ++ [asksOf p[i] c] = stepP c s p[i] := by
              unfold stepP; rw [if_neg h, if_neg h2, if_neg h3]
            rw [e2]; exact ih
  have j0 : ∀ b, (b = false → isPattern p = true ∧ isCard c = true) → (b = true → ¬ (isPattern p && isCard c) = true) → Ev (fun k => spec_Matches.j0 k p c b) (matchOf p c) := by
    intro b h1 h2
    refine ev_unfold (fun k => rfl) ?_
    simp only [spec_Matches.j0]
    unfold matchOf
    refine ev_ite (fun h => ev_ret ?_) (fun h => ?_)
    · rw [if_neg (h2 h)]
    · rw [Bool.not_eq_true] at h
      obtain ⟨hp, hc⟩ := h1 h
      rw [if_pos (by rw [hp, hc]; rfl)]
      exact l0 hp
  simp only [spec_Matches.f]
  refine Ev.bind (spec_IsPattern_ev p hl) (ev_ite (fun h => ?_) (fun h => ?_))
  · refine ev_eq (spec_IsCard_eq c) (j0 _ (fun e => ⟨h, by simpa using e⟩) (fun e => ?_))
    rw [Bool.not_eq_true'] at e; rw [h, e]; simp
  · refine j0 _ (fun e => by simp at e) (fun _ => ?_)
    simp [h]

theorem spec_MatchSet_ev (p : List Int) (hp : p.length ≤ 1048576000) : Ev (fun k => spec_MatchSet.f k p) (matchSet p) := by
  have key : ∀ (m i : Nat), i + m = 52 → ∀ s : List Int, s.length ≤ i → Ev (fun k => spec_MatchSet.l0 k p s (i : Int)) (s ++ setM p i m) := by
    intro m
    induction m with
    | zero =>
      intro i h s hs
      refine ev_unfold (fun k => rfl) ?_
      simp only [spec_MatchSet.l0]
      exact ev_neg (by omega) (ev_ret (by simp [setM]))
    | succ m ih =>
      intro i h s hs
      refine ev_unfold (fun k => rfl) ?_
      simp only [spec_MatchSet.l0]
      rw [w64next i (by omega)]
      unfold setM
      refine ev_pos (by omega) (Ev.bind (spec_Matches_ev p _ hp) (ev_ite (fun h2 => ?_) (fun h2 => ?_)))
      · rw [if_pos h2]
        exact ev_pos (by omega) (ev_done (ih (i + 1) (by omega) (s ++ [(i : Int)]) (by simp; omega)) (by simp))
      · rw [if_neg h2]
        exact ih (i + 1) (by omega) s (by omega)
  simp only [spec_MatchSet.f]
  exact key 52 0 (by omega) [] (by simp)

theorem impl_CountMatches_ev (p l : List Int) (hp : p.length ≤ 1048576000) (hl : l.length ≤ 1048576000) : Ev (fun k => impl_CountMatches.f k p l) (countM p l) := by
  simp only [impl_CountMatches.f]
  refine ev_done (ev_loop (fun k (s : Int) i => impl_CountMatches.l0 k p s l (l.length : Int) i) l (fun s r => s + countM p r) (fun s i => 0 ≤ s ∧ s ≤ i) ?_ ?_ 0 0 (by omega) ⟨by omega, by omega⟩) (by simp)
  · rintro s _
    refine ev_unfold (fun k => rfl) ?_
    simp only [impl_CountMatches.l0]
    exact ev_neg (by omega) (ev_ret (by simp [countM]))
  · rintro s i hi ⟨h1, h2⟩ ih
    refine ev_unfold (fun k => rfl) ?_
    simp only [impl_CountMatches.l0]
    rw [w64next i (by omega), rd_at l i hi, w64 (s + 1) (by omega)]
    have e : countM p (l[i] :: l.drop (i + 1)) = (if matchOf p l[i] = true then 1 else 0) + countM p (l.drop (i + 1)) := by
      unfold countM; rw [List.filter_cons]
      by_cases h : matchOf p l[i] = true
      · rw [if_pos h, if_pos h]; simp only [List.length_cons]; omega
      · rw [if_neg h, if_neg h]; omega
    rw [e]
    refine ev_pos (by omega) (ev_pos (by omega) (ev_pos (by omega) (Ev.bind (impl_Matches_ev p _ hp) (ev_ite (fun h => ?_) (fun h => ?_)))))
    · rw [if_pos h]; exact ev_done (ih _ ⟨by omega, by omega⟩) (by omega)
    · rw [if_neg h]; exact ev_done (ih _ ⟨by omega, by omega⟩) (by omega)

theorem impl_PlaceOf_ev (l : List Int) (c : Int) (hl : l.length ≤ 1048576000) : Ev (fun k => impl_PlaceOf.f k l c) (placeOf l c) := by
  simp only [impl_PlaceOf.f]
  refine ev_loopN (fun k (_ : Unit) i => impl_PlaceOf.l0 k c l (l.length : Int) i) l.length (fun _ i => placeF c i (l.drop i)) (fun _ _ => True) ?_ ?_ () 0 (by omega) trivial
  · rintro s _
    refine ev_unfold (fun k => rfl) ?_
    simp only [impl_PlaceOf.l0]
    refine ev_neg (by omega) (ev_ret ?_)
    rw [drop_end]; rfl
  · rintro s i hi _ ih
    refine ev_unfold (fun k => rfl) ?_
    simp only [impl_PlaceOf.l0]
    refine ev_pos (by omega) (ev_pos (by omega) (ev_pos (by omega) ?_))
    rw [w64next i (by omega), rd_at l i hi, drop_at l i hi]
    unfold placeF
    refine ev_ite (fun h => ev_ret ?_) (fun h => ev_done (ih () trivial) ?_)
    · rw [if_pos h]
    · rw [if_neg h]; congr 1

theorem impl_HasCard_ev (l : List Int) (c : Int) (hl : l.length ≤ 1048576000) : Ev (fun k => impl_HasCard.f k l c) (hasCard l c) := by
  simp only [impl_HasCard.f]
  refine Ev.bind (impl_PlaceOf_ev l c hl) (ev_ret ?_)
  unfold hasCard
  exact decide_eq_decide.2 (placeOf_nonneg l c)

def missF (l : List Int) : Nat → Nat → List Int
  | _, 0 => []
  | i, m + 1 => if hasCard l (i : Int) = true then missF l (i + 1) m else (i : Int) :: missF l (i + 1) m
theorem impl_Missing_ev (l : List Int) (hl : l.length ≤ 1048576000) : Ev (fun k => impl_Missing.f k l) (missF l 0 52) := by
  have key : ∀ (m i : Nat), i + m = 52 → ∀ s : List Int, s.length ≤ i → Ev (fun k => impl_Missing.l0 k l s (i : Int)) (s ++ missF l i m) := by
    intro m
    induction m with
    | zero =>
      intro i h s hs
      refine ev_unfold (fun k => rfl) ?_
      simp only [impl_Missing.l0]
      exact ev_neg (by omega) (ev_ret (by simp [missF]))
    | succ m ih =>
      intro i h s hs
      refine ev_unfold (fun k => rfl) ?_
      simp only [impl_Missing.l0]
      rw [w64next i (by omega)]
      unfold missF
      refine ev_pos (by omega) (Ev.bind (impl_HasCard_ev l _ hl) (ev_ite (fun h2 => ?_) (fun h2 => ?_)))
      · rw [if_pos h2]
        exact ih (i + 1) (by omega) s (by omega)
      · rw [if_neg h2]
        exact ev_pos (by omega) (ev_done (ih (i + 1) (by omega) (s ++ [(i : Int)]) (by simp; omega)) (by simp))
  simp only [impl_Missing.f]
  exact key 52 0 (by omega) [] (by simp)

theorem spec_l4Card_ok (b : List Int) (i h : Int) (hc : Cur b i) : OkP (spec_l4Card.f b i h) (fun r => Cur b r.2.1) := by
  unfold spec_l4Card.f
  exact (spec_l1Below_ok b i h 52 hc (by omega)).bind (fun r hr => (spec_l1Below_ok b _ _ 52 hr.2.2.2 (by omega)).bind (fun s hs => (spec_l1Below_ok b _ _ 52 hs.2.2.2 (by omega)).bind (fun t ht => (spec_l1Int_ok b _ _ _ ht.2.2.2 (by simp) (by simp)).bind (fun u hu => OkP.now hu.2))))

theorem spec_DrawMatches_ev (l : List Int) (hl : l.length ≤ 140737488351232) : EvP (fun k => spec_DrawMatches.f k l) (fun r => r.1.length ≤ 7) := by
  simp only [spec_DrawMatches.f]
  refine EvP.bind (spec_l1New_ev l hl) (fun r hr => ?_)
  have hc : Cur r.1 r.2.1 := by rw [hr.1]; exact hr.2
  exact EvP.bind (spec_l8Any_ev r.1 r.2.1 r.2.2 hc) (fun s hs => EvP.bind (spec_l4Card_ok r.1 _ _ hs.2).ev (fun t _ => EvP.now hs.1))

theorem spec_NotPattern_ev (l : List Int) (hl : l.length ≤ 1048575999) : Ev (fun k => spec_NotPattern.f k l) (notPattern l) := by
  simp only [spec_NotPattern.f, Option.bind_some, List.nil_append, List.length_nil]
  unfold notPattern
  refine ev_pos (by omega) (ev_pos (by omega) (Ev.bind (spec_IsPattern_ev _ (by simp; omega)) ?_))
  refine ev_ite (fun h => ev_ret ?_) (fun h => ev_ret ?_)
  · rw [if_pos h]
  · rw [if_neg h]

theorem notPattern_length (p : List Int) : (notPattern p).length ≤ p.length + 1 := by
  unfold notPattern
  split <;> simp
theorem spec_DrawAlikePatterns_ev (l : List Int) (hl : l.length ≤ 140737488351232) : EvP (fun k => spec_DrawAlikePatterns.f k l) (fun r => r.1.length ≤ 7 ∧ r.2.length ≤ 9) := by
  simp only [spec_DrawAlikePatterns.f]
  refine EvP.bind (spec_l1New_ev l hl) (fun r hr => ?_)
  have hc : Cur r.1 r.2.1 := by rw [hr.1]; exact hr.2
  refine EvP.bind (spec_l8Any_ev r.1 r.2.1 r.2.2 hc) (fun s hs => EvP.bind (spec_l1Once_ok r.1 _ _ 2 hs.2 (by omega)).ev (fun t ht => EvP.ite (fun _ => ?_) (fun _ => ?_)))
  · have h1 := notPattern_length s.1
    have h2 := notPattern_length (notPattern s.1)
    have h3 := hs.1
    exact EvP.bind (EvP.of (P := fun x => x = notPattern s.1) (spec_NotPattern_ev s.1 (by omega)) rfl) (fun x hx => by
      subst hx
      exact EvP.bind (EvP.of (P := fun x => x = notPattern (notPattern s.1)) (spec_NotPattern_ev _ (by omega)) rfl) (fun y hy => EvP.now ⟨h3, by simp only; rw [hy]; omega⟩))
  · refine EvP.bind (spec_l8Any_ev r.1 _ _ ht) (fun u hu => EvP.now ⟨hs.1, ?_⟩)
    have := hu.1
    simp only; omega

theorem spec_HasCard_ev (l : List Int) (c : Int) (hl : l.length ≤ 1048576000) : Ev (fun k => spec_HasCard.f k l c) (hasCard l c) := by
  simp only [spec_HasCard.f]
  refine ev_done (ev_loop (fun k (_ : Unit) i => spec_HasCard.l0 k l c i) l (fun _ r => hasCard r c) (fun _ _ => True) ?_ ?_ () 0 (by omega) trivial) rfl
  · rintro s _
    refine ev_unfold (fun k => rfl) ?_
    simp only [spec_HasCard.l0]
    exact ev_neg (by omega) (ev_ret (by simp [hasCard]))
  · rintro s i hi _ ih
    refine ev_unfold (fun k => rfl) ?_
    simp only [spec_HasCard.l0]
    rw [w64next i (by omega), rd_at l i hi]
    refine ev_pos (by omega) (ev_pos (by omega) (ev_ite (fun h => ev_ret ?_) (fun h => ev_done (ih () trivial) ?_)))
    · simp [hasCard, h]
    · have h2 : ¬ c = l[i] := fun e => h e.symm
      simp only [hasCard, List.mem_cons]
      exact decide_eq_decide.2 ⟨fun h => .inr h, fun h => h.resolve_left h2⟩

theorem spec_l5Some_ev (b : List Int) (i h n : Int) (hc : Cur b i) (hn : n ≤ 40) : EvP (fun k => spec_l5Some.f k b i h n) (fun r => r.1.length ≤ 40 ∧ Cur b r.2.1) := by
  -- the search for a card that isn't there ends
  have l1 : ∀ (out : List Int) (j i h : Int), out.length < 52 → (∀ c : Int, EvP (fun k => spec_l5Some.l0 k n (out ++ [c]) (wrap64 (j + 1)) b i h) (fun r => r.1.length ≤ 40 ∧ Cur b r.2.1)) →
      ∀ (d x : Nat), x < 52 → (((x + 7 * d) % 52 : Nat) : Int) ∉ out → EvP (fun k => spec_l5Some.l1 k n out j (x : Int) b i h) (fun r => r.1.length ≤ 40 ∧ Cur b r.2.1) := by
    intro out j i h ho hk d
    induction d with
    | zero =>
      intro x hx hd
      have e : (x + 7 * 0) % 52 = x := by omega
      rw [e] at hd
      refine EvP.unfold (fun k => rfl) ?_
      simp only [spec_l5Some.l1]
      refine EvP.bind (EvP.of (P := fun a => a = hasCard out (x : Int)) (spec_HasCard_ev out (x : Int) (by omega)) rfl) (fun a ha => ?_)
      have : a = false := by rw [ha]; simp [hasCard, hd]
      rw [this]
      exact EvP.neg (by simp) (EvP.pos (by omega) (hk _))
    | succ d ih =>
      intro x hx hd
      refine EvP.unfold (fun k => rfl) ?_
      simp only [spec_l5Some.l1]
      refine EvP.bind (EvP.of (P := fun a => a = hasCard out (x : Int)) (spec_HasCard_ev out (x : Int) (by omega)) rfl) (fun a ha => EvP.ite (fun _ => ?_) (fun _ => EvP.pos (by omega) (hk _)))
      have e : Int.tmod (wrap64 ((x : Int) + 7)) 52 = (((x + 7) % 52 : Nat) : Int) := by
        rw [w64 _ (by omega), Int.tmod_eq_emod_of_nonneg (by omega)]; omega
      rw [e]
      refine ih _ (Nat.mod_lt _ (by omega)) ?_
      have e2 : ((x + 7) % 52 + 7 * d) % 52 = (x + 7 * (d + 1)) % 52 := by omega
      rw [e2]; exact hd
  have l0 : ∀ (d : Nat) (out : List Int) (j i h : Int), 0 ≤ j → (d : Int) = max 0 (n - j) → (out.length : Int) = j → j ≤ max 0 n → Cur b i → EvP (fun k => spec_l5Some.l0 k n out j b i h) (fun r => r.1.length ≤ 40 ∧ Cur b r.2.1) := by
    intro d
    induction d with
    | zero =>
      intro out j i h hj hd ho hj2 hc
      refine EvP.unfold (fun k => rfl) ?_
      simp only [spec_l5Some.l0]
      exact EvP.neg (by omega) (EvP.now ⟨by simp only; omega, hc⟩)
    | succ d ih =>
      intro out j i h hj hd ho hj2 hc
      refine EvP.unfold (fun k => rfl) ?_
      simp only [spec_l5Some.l0]
      refine EvP.pos (by omega) (EvP.bind (spec_l1Below_ok b i h 52 hc (by omega)).ev (fun r hr => ?_))
      have h1 := hr.2.1 (by omega)
      have h0 := hr.1
      obtain ⟨x, hx⟩ : ∃ x : Nat, r.1 = (x : Int) := ⟨r.1.toNat, by omega⟩
      rw [hx]
      have hx2 : x < 52 := by omega
      obtain ⟨q, _, hq⟩ := seven_free out (by omega) x hx2
      refine l1 out j _ _ (by omega) (fun c => ?_) q x hx2 hq
      rw [w64 (j + 1) (by omega)]
      exact ih _ _ _ _ (by omega) (by omega) (by simp; omega) (by omega) hr.2.2.2
  simp only [spec_l5Some.f]
  exact l0 (max 0 n).toNat [] 0 i h (by omega) (by omega) rfl (by omega) hc

theorem spec_l5Any_ev (b : List Int) (i h : Int) (hc : Cur b i) : EvP (fun k => spec_l5Any.f k b i h) (fun r => r.1.length ≤ 40 ∧ Cur b r.2.1) := by
  simp only [spec_l5Any.f]
  refine EvP.bind (spec_l1Below_ok b i h 9 hc (by omega)).ev (fun r hr => ?_)
  have h1 := hr.2.1 (by omega)
  refine EvP.bind (spec_l5Some_ev b _ _ r.1 hr.2.2.2 (by omega)) (fun s hs => EvP.ite (fun hp => ?_) (fun _ => EvP.now hs))
  refine EvP.bind (spec_l1Once_ok b _ _ 10 hs.2 (by omega)).ev (fun t ht => EvP.ite (fun _ => ?_) (fun _ => EvP.now ⟨hs.1, ht⟩))
  have h2 := hs.1
  rw [w64 _ (by omega)]
  refine EvP.pos (by omega) (EvP.pos (by omega) (EvP.bind (spec_l1Int_ok b _ _ [_, 52, -1] ht (by simp) (by simp)).ev (fun u hu => EvP.pos (by omega) (EvP.now ⟨by simp only [List.length_set]; omega, hu.2⟩))))

theorem spec_DrawCountMatches_ev (l : List Int) (hl : l.length ≤ 140737488351232) : EvP (fun k => spec_DrawCountMatches.f k l) (fun r => r.1.length ≤ 7 ∧ r.2.length ≤ 40) := by
  simp only [spec_DrawCountMatches.f]
  refine EvP.bind (spec_l1New_ev l hl) (fun r hr => ?_)
  have hc : Cur r.1 r.2.1 := by rw [hr.1]; exact hr.2
  exact EvP.bind (spec_l8Any_ev r.1 r.2.1 r.2.2 hc) (fun s hs => EvP.bind (spec_l5Any_ev r.1 _ _ hs.2) (fun t ht => EvP.now ⟨hs.1, ht.1⟩))

theorem impl_EqualInts_ev (a b : List Int) (hl : a.length ≤ 1048576000) : Ev (fun k => impl_EqualInts.f k a b) (decide (a = b)) := by
  simp only [impl_EqualInts.f]
  refine ev_ite (fun h => ?_) (fun h => ev_ret ?_)
  · have he : a.length = b.length := by omega
    refine ev_done (ev_loopN (fun k (_ : Unit) i => impl_EqualInts.l0 k a b (a.length : Int) i) a.length (fun _ i => decide (a.drop i = b.drop i)) (fun _ _ => True) ?_ ?_ () 0 (by omega) trivial) (by simp)
    · rintro s _
      refine ev_unfold (fun k => rfl) ?_
      simp only [impl_EqualInts.l0]
      refine ev_neg (by omega) (ev_ret ?_)
      rw [drop_end, he, drop_end]; rfl
    · rintro s i hi _ ih
      refine ev_unfold (fun k => rfl) ?_
      simp only [impl_EqualInts.l0]
      have hib : i < b.length := by omega
      rw [w64next i (by omega), rd_at a i hi, rd_at b i hib, drop_at a i hi, drop_at b i hib]
      refine ev_pos (by omega) (ev_pos (by omega) (ev_pos (by omega) (ev_pos (by omega) (ev_ite (fun h2 => ev_done (ih () trivial) ?_) (fun h2 => ev_ret ?_)))))
      · rw [h2]; simp only [List.cons.injEq, true_and]
      · exact (decide_eq_false (fun e => h2 (by injection e))).symm
  · exact (decide_eq_false (fun e => h (by rw [e]))).symm

theorem impl_AlikePatterns_ev (a b : List Int) (ha : a.length ≤ 1048576000) (hb : b.length ≤ 1048576000) : Ev (fun k => impl_AlikePatterns.f k a b) (alike a b) := by
  have la := setM_length a 52 0
  simp only [impl_AlikePatterns.f]
  unfold alike
  refine Ev.bind (impl_IsPattern_ev a ha) (ev_ite (fun h => ?_) (fun h => by rw [if_neg h]; exact Ev.now _))
  rw [if_pos h]
  refine Ev.bind (impl_IsPattern_ev b hb) (ev_ite (fun h => ?_) (fun h => by rw [if_neg h]; exact Ev.now _))
  rw [if_pos h]
  exact Ev.bind (impl_MatchSet_ev a ha) (Ev.bind (impl_MatchSet_ev b hb) (Ev.bind (impl_EqualInts_ev _ _ (by unfold matchSet; omega)) (Ev.now _)))

theorem pileF_append (c : Int) : ∀ (a : List Int) (pile : List Bool) (s : Int), pileF c pile (a ++ [s]) = stepP c (pileF c pile a) s
  | [], pile, s => rfl
  | x :: r, pile, s => pileF_append c r (stepP c pile x) s
theorem pileF_length (c : Int) : ∀ (a : List Int) (pile : List Bool) (m : Int), patF (pile.length : Int) a = some m → ((pileF c pile a).length : Int) = m
  | [], pile, m, h => by simpa [patF, pileF] using h
  | s :: r, pile, m, h => pileF_length c r (stepP c pile s) m (step_length (c := c) h).1
theorem not_matches {p : List Int} {c : Int} (hp : isPattern p = true) (hn : isPattern (p ++ [-1]) = true) (hc : isCard c = true) : matchOf (p ++ [-1]) c = !matchOf p c := by
  unfold matchOf
  rw [hp, hn, hc, if_pos (by rfl), if_pos (by rfl), pileF_append]
  have h1 : patF 0 p = some 1 := by simp [isPattern] at hp; exact hp.1
  have h2 := pileF_length c p [] 1 (by simpa using h1)
  unfold stepP
  rw [if_pos rfl]
  obtain ⟨x, hx⟩ : ∃ x, pileF c [] p = [x] := List.length_eq_one_iff.1 (by omega)
  rw [hx]; rfl
theorem setM_mem (p : List Int) : ∀ (m i : Nat) (c : Int), c ∈ setM p i m ↔ ((i : Int) ≤ c ∧ c < (i : Int) + (m : Int)) ∧ matchOf p c = true
  | 0, i, c => by simp [setM]; omega
  | m + 1, i, c => by
    have ih := setM_mem p m (i + 1) c
    unfold setM
    split
    · rename_i h
      rw [List.mem_cons, ih]
      constructor
      · rintro (e | ⟨h1, h2⟩)
        · rw [e]; exact ⟨by omega, h⟩
        · exact ⟨by omega, h2⟩
      · rintro ⟨h1, h2⟩
        by_cases e : c = (i : Int)
        · exact .inl e
        · exact .inr ⟨by omega, h2⟩
    · rename_i h
      rw [ih]
      constructor
      · rintro ⟨h1, h2⟩; exact ⟨by omega, h2⟩
      · rintro ⟨h1, h2⟩
        refine ⟨?_, h2⟩
        by_cases e : c = (i : Int)
        · rw [e] at h2; exact absurd h2 h
        · omega
theorem matchSet_mem (p : List Int) (c : Int) : c ∈ matchSet p ↔ matchOf p c = true := by
  unfold matchSet
  rw [setM_mem]
  constructor
  · exact fun h => h.2
  · intro h
    refine ⟨?_, h⟩
    unfold matchOf at h
    by_cases hc : (isPattern p && isCard c) = true
    · rw [Bool.and_eq_true] at hc
      have := (isCard_iff c).1 hc.2
      omega
    · rw [if_neg hc] at h; cases h
theorem setM_asc (p : List Int) : ∀ (m i : Nat), (setM p i m).Pairwise (· < ·)
  | 0, i => by simp [setM]
  | m + 1, i => by
    have ih := setM_asc p m (i + 1)
    unfold setM
    split
    · refine List.pairwise_cons.2 ⟨fun x hx => ?_, ih⟩
      have := ((setM_mem p m (i + 1) x).1 hx).1
      omega
    · exact ih
theorem countM_all (p : List Int) : countM p (matchSet p) = ((matchSet p).length : Int) := by
  unfold countM
  rw [List.filter_eq_self.2 (fun c hc => (matchSet_mem p c).1 hc)]
theorem countM_le (p l : List Int) : countM p l ≤ (l.length : Int) := by
  unfold countM
  have := List.length_filter_le (fun c => matchOf p c) l
  omega
theorem set_miss {p : List Int} (hp : isPattern p = true) (hn : isPattern (p ++ [-1]) = true) : ∀ (m i : Nat), i + m = 52 → setM (p ++ [-1]) i m = missF (matchSet p) i m
  | 0, i, h => rfl
  | m + 1, i, h => by
    have ih := set_miss hp hn m (i + 1) (by omega)
    have hc : isCard (i : Int) = true := (isCard_iff _).2 (by omega)
    have e1 := not_matches hp hn hc
    have e2 : hasCard (matchSet p) (i : Int) = matchOf p (i : Int) := by
      unfold hasCard
      rw [Bool.eq_iff_iff, decide_eq_true_iff]; exact matchSet_mem p _
    unfold setM missF
    rw [e1, e2, ih]
    cases matchOf p (i : Int) <;> rfl
theorem alike_symm (a b : List Int) : alike a b = alike b a := by
  unfold alike
  by_cases ha : isPattern a = true <;> by_cases hb : isPattern b = true
  · rw [if_pos ha, if_pos hb, if_pos hb, if_pos ha]
    exact decide_eq_decide.2 eq_comm
  · rw [if_pos ha, if_neg hb, if_neg hb]
  · rw [if_neg ha, if_pos hb, if_neg ha]
  · rw [if_neg ha, if_neg hb]
theorem alike_self (a : List Int) : alike a a = isPattern a := by
  unfold alike
  by_cases ha : isPattern a = true
  · rw [if_pos ha, if_pos ha, ha]; simp
  · rw [if_neg ha]; simp at ha; exact ha.symm
theorem laws_FnPatterns_j2 (l : List Int) (hl : l.length ≤ 140737488351232) : Ev (fun k => laws_FnPatterns.j2 k l false) true := by
  refine ev_unfold (fun k => rfl) ?_
  simp only [laws_FnPatterns.j2]
  refine ev_neg (by simp) (EvP.use (spec_DrawAlikePatterns_ev l hl) (fun r hr => EvP.use (spec_DrawCountMatches_ev l hl) (fun s hs => ?_)))
  have h1 := hr.1
  have h2 := hr.2
  have h3 := hs.1
  have h4 := hs.2
  refine Ev.bind (impl_AlikePatterns_ev _ _ (by omega) (by omega)) (Ev.bind (impl_AlikePatterns_ev _ _ (by omega) (by omega)) (ev_pos (by rw [alike_symm]; simp) (Ev.bind (impl_AlikePatterns_ev _ _ (by omega) (by omega)) (Ev.bind (impl_IsPattern_ev _ (by omega)) (ev_pos (by rw [alike_self]; simp) (Ev.bind (impl_CountMatches_ev _ _ (by omega) (by omega)) (ev_ret ?_)))))))
  exact decide_eq_true (countM_le _ _)
theorem laws_FnPatterns_j1 (l : List Int) (hl : l.length ≤ 140737488351232) : Ev (fun k => laws_FnPatterns.j1 k l false) true := by
  have j2 := laws_FnPatterns_j2 l hl
  refine ev_unfold (fun k => rfl) ?_
  simp only [laws_FnPatterns.j1]
  refine ev_neg (by simp) (EvP.use (spec_DrawMatches_ev l hl) (fun r hr => ?_))
  have h5 := setM_length r.1 52 0
  refine Ev.bind (impl_Matches_ev r.1 r.2 (by omega)) (Ev.bind (impl_MatchSet_ev r.1 (by omega)) (Ev.bind (laws_contains_ev _ r.2 (by unfold matchSet; omega)) (ev_neg ?_ (Ev.bind (impl_Matches_ev r.1 r.2 (by omega)) (ev_ite (fun h => ?_) (fun h => j2))))))
  · rw [show decide (r.2 ∈ matchSet r.1) = matchOf r.1 r.2 by rw [Bool.eq_iff_iff, decide_eq_true_iff]; exact matchSet_mem _ _]
    simp
  · refine Ev.bind (impl_IsPattern_ev r.1 (by omega)) ?_
    have hp : isPattern r.1 = true := by
      unfold matchOf at h
      by_cases hc : (isPattern r.1 && isCard r.2) = true
      · rw [Bool.and_eq_true] at hc; exact hc.1
      · rw [if_neg hc] at h; cases h
    rw [hp]; exact j2
theorem FnPatterns : laws_FnPatterns.Pure := by
  intro l hl0 hl1 _
  have hl : l.length ≤ 140737488351232 := by omega
  refine Ev.rounds ?_
  have j1 := laws_FnPatterns_j1 l hl
  simp only [laws_FnPatterns.f, laws_big_eq, Option.bind_some]
  refine ev_ite (fun _ => Ev.now _) (fun _ => EvP.use (spec_DrawNotPattern_ev l hl) (fun p hp => ?_))
  have h5 := setM_length p 52 0
  have h6 : (matchSet p).length ≤ 52 := h5
  refine Ev.bind (impl_NotPattern_ev p (by omega)) (Ev.bind (impl_MatchSet_ev p (by omega)) (Ev.bind (spec_MatchSet_ev p (by omega)) (ev_pos rfl (Ev.bind (laws_ascends_ev _ (by omega)) (ev_pos ?_ (Ev.bind (impl_CountMatches_ev p _ (by omega) (by omega)) ?_))))))
  · exact ascB_iff.2 (setM_asc p 52 0)
  rw [countM_all]
  refine ev_unfold (fun k => rfl) ?_
  simp only [laws_FnPatterns.j0]
  refine ev_neg (by simp) (ev_ite (fun hn => Ev.bind (impl_IsPattern_ev p (by omega)) (ev_ite (fun h => ?_) (fun h => j1))) (fun _ => j1))
  have hq : isPattern (p ++ [-1]) = true := by
    unfold notPattern at hn
    by_cases hq : isPattern (p ++ [-1]) = true
    · exact hq
    · rw [if_neg hq] at hn; simp at hn
  have e : notPattern p = p ++ [-1] := by unfold notPattern; rw [if_pos hq]
  have h7 := setM_length (p ++ [-1]) 52 0
  rw [e]
  refine Ev.bind (impl_MatchSet_ev _ (by simp; omega)) (Ev.bind (impl_Missing_ev _ (by omega)) (Ev.bind (laws_sameInts_ev _ _ (by unfold matchSet; omega)) ?_))
  rw [show decide (matchSet (p ++ [-1]) = missF (matchSet p) 0 52) = true from decide_eq_true (set_miss h hq 52 0 (by omega))]
  exact j1

end Go.Proofs.Ytecjbogconeilaa.Pure
