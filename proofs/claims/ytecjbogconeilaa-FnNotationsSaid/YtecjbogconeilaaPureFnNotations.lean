/- In the given program FnNotations answers true for every input, by what its functions compute; no condition. -/
import Derived.Test.YtecjbogconeilaaQFnNotationsx10
import Derived.Test.YtecjbogconeilaaLib
import Derived.Test.YtecjbogconeilaaCards
import Derived.Test.YtecjbogconeilaaCards2
import Derived.Test.YtecjbogconeilaaCalls
import Derived.Test.YtecjbogconeilaaHands
import Derived.Test.YtecjbogconeilaaPats
import Derived.Test.YtecjbogconeilaaSort
import Derived.Test.YtecjbogconeilaaDraw
import Derived.Test.YtecjbogconeilaaDeal
import Derived.Test.YtecjbogconeilaaParse
import Derived.Test.YtecjbogconeilaaPatText
import Derived.Test.YtecjbogconeilaaRead
import Derived.Test.YtecjbogconeilaaBack
namespace Go.Proofs.Ytecjbogconeilaa.Pure
open Go.RowKit Go.Proofs.Ytecjbogconeilaa.QFnNotations Go.Proofs.YtecjbogconeilaaW.PrintWords Go.Proofs.YtecjbogconeilaaW.PrintLast Go.Proofs.YtecjbogconeilaaW.PrintMore Go.Proofs.Ytecjbogconeilaa.Lib
set_option linter.unusedVariables false
set_option linter.unusedSimpArgs false

theorem laws_big_eq (l : List Int) : laws_big.f l = some (decide ((l.length : Int) > 1048576)) := rfl

theorem spec_l1New_ev (l : List Int) (hl : l.length ≤ 140737488351232) : EvP (fun k => spec_l1New.f k l) (fun r => r.1 = l ∧ Cur l r.2.1) := by
  have key : ∀ (d i : Nat) (h : Int), i + d = l.length → EvP (fun k => spec_l1New.l0 k l h (i : Int)) (fun r => r.1 = l ∧ Cur l r.2.1) := by
    intro d
    induction d with
    | zero =>
      intro i h hd
      refine EvP.unfold (fun k => rfl) ?_
      simp only [spec_l1New.l0]
      exact EvP.neg (by omega) (EvP.now ⟨rfl, by unfold Cur; simp only; omega⟩)
    | succ d ih =>
      intro i h hd
      refine EvP.unfold (fun k => rfl) ?_
      simp only [spec_l1New.l0]
      refine EvP.pos (by omega) (EvP.ite (fun _ => EvP.pos (by omega) ?_) (fun _ => EvP.now ⟨rfl, by unfold Cur; simp only; omega⟩))
      rw [w64next i (by omega)]
      exact ih (i + 1) _ (by omega)
  simp only [spec_l1New.f]
  exact key l.length 0 _ (by omega)

theorem spec_l1Byte_ok (b : List Int) (i h : Int) (hc : Cur b i) : OkP (spec_l1Byte.f b i h) (fun r => 0 ≤ r.1 ∧ r.1 ≤ 255 ∧ Cur b r.2.1) := by
  obtain ⟨h0, h1, h2⟩ := hc
  unfold spec_l1Byte.f
  refine OkP.ite (fun h3 => OkP.pos h0 (OkP.now ?_)) (fun h3 => OkP.now ?_)
  · have := and_mask (wrap64 ((Go.bits .and .i64 (Go.bits .xor .i64 ((wrap64 ((wrap64 (h * 6364136223846793005)) + 1442695040888963407)) / 8589934592) ((wrap64 ((wrap64 (h * 6364136223846793005)) + 1442695040888963407)) / 140737488355328)) 255) + (wrap64 (rd b i)))) 255 (by omega)
    refine ⟨this.1, this.2, ?_⟩
    unfold Cur
    simp only
    rw [w64 _ (by omega)]
    omega
  · have := and_mask (Go.bits .xor .i64 ((wrap64 ((wrap64 (h * 6364136223846793005)) + 1442695040888963407)) / 8589934592) ((wrap64 ((wrap64 (h * 6364136223846793005)) + 1442695040888963407)) / 140737488355328)) 255 (by omega)
    exact ⟨this.1, this.2, h0, h1, h2⟩

theorem spec_l1Below_ok (b : List Int) (i h n : Int) (hc : Cur b i) (hn : n ≤ 1000000000) : OkP (spec_l1Below.f b i h n) (fun r => 0 ≤ r.1 ∧ (0 < n → r.1 < n) ∧ (n ≤ 0 → r.1 = 0) ∧ Cur b r.2.1) := by
  unfold spec_l1Below.f
  refine OkP.ite (fun h1 => OkP.now ⟨Int.le_refl 0, fun h => absurd h (by omega), fun _ => rfl, hc⟩) (fun h1 => OkP.ite (fun h2 => ?_) (fun h2 => ?_))
  · refine (spec_l1Byte_ok b i h hc).bind (fun r hr => OkP.neg (by omega) (OkP.now ?_))
    have := tmod_range (x := r.1) (n := n) hr.1 (by omega)
    exact ⟨this.1, fun _ => this.2, fun h => absurd h h1, hr.2.2⟩
  · refine (spec_l1Byte_ok b i h hc).bind (fun r hr => (spec_l1Byte_ok b _ _ hr.2.2).bind (fun s hs => (spec_l1Byte_ok b _ _ hs.2.2).bind (fun t ht => OkP.neg (by omega) (OkP.now ?_))))
    have e : wrap64 ((wrap64 ((wrap64 (r.1 * 65536)) + (wrap64 (s.1 * 256)))) + t.1) = r.1 * 65536 + s.1 * 256 + t.1 := by
      rw [w64 (r.1 * 65536) (by omega), w64 (s.1 * 256) (by omega), w64 (r.1 * 65536 + s.1 * 256) (by omega), w64 _ (by omega)]
    simp only
    rw [e]
    have := tmod_range (x := r.1 * 65536 + s.1 * 256 + t.1) (n := n) (by omega) (by omega)
    exact ⟨this.1, fun _ => this.2, fun h => absurd h h1, ht.2.2⟩

theorem spec_l1Once_ok (b : List Int) (i h n : Int) (hc : Cur b i) (hn : n ≤ 1000000000) : OkP (spec_l1Once.f b i h n) (fun r => Cur b r.2.1) := by
  unfold spec_l1Once.f
  exact (spec_l1Below_ok b i h n hc hn).bind (fun r hr => OkP.now hr.2.2.2)

theorem spec_l1Int_ok (b : List Int) (i h : Int) (l : List Int) (hc : Cur b i) (h0 : 0 < l.length) (hl : l.length ≤ 1000000000) : OkP (spec_l1Int.f b i h l) (fun r => r.1 ∈ l ∧ Cur b r.2.1) := by
  unfold spec_l1Int.f
  refine (spec_l1Below_ok b i h (l.length : Int) hc (by omega)).bind (fun r hr => OkP.pos hr.1 (OkP.pos (hr.2.1 (by omega)) (OkP.now ⟨?_, hr.2.2.2⟩)))
  obtain ⟨j, hj⟩ : ∃ j : Nat, r.1 = (j : Int) := ⟨r.1.toNat, by have := hr.1; omega⟩
  have hj2 : j < l.length := by have := hr.2.1 (by omega); omega
  simp only
  rw [hj, rd_at l j hj2]
  exact List.getElem_mem hj2

theorem spec_l8Leaves_ok (b : List Int) (i h : Int) (hc : Cur b i) : OkP (spec_l8Leaves.f b i h) (fun r => Cur b r.2.1) := by
  unfold spec_l8Leaves.f
  exact (spec_l1Below_ok b i h 4 hc (by omega)).bind (fun r hr => (spec_l1Below_ok b _ _ 13 hr.2.2.2 (by omega)).bind (fun s hs => (spec_l1Below_ok b _ _ 13 hs.2.2.2 (by omega)).bind (fun t ht => (spec_l1Int_ok b _ _ _ ht.2.2.2 (by simp) (by simp)).bind (fun u hu => OkP.now hu.2))))

theorem spec_l8Draw_ev (b : List Int) : ∀ (d : Nat), d ≤ 2 → ∀ (i h : Int), Cur b i → EvP (fun k => spec_l8Draw.f k b i h (d : Int)) (fun r => 1 ≤ r.1.length ∧ r.1.length ≤ 7 ∧ r.1.length + 1 ≤ 2 ^ (d + 1) ∧ Cur b r.2.1) := by
  have leaf : ∀ (a i h : Int) (d : Nat), Cur b i → EvP (fun k => spec_l8Draw.j0 k a true b i h) (fun r => 1 ≤ r.1.length ∧ r.1.length ≤ 7 ∧ r.1.length + 1 ≤ 2 ^ (d + 1) ∧ Cur b r.2.1) := by
    intro a i h d hc
    refine EvP.unfold (fun k => rfl) ?_
    simp only [spec_l8Draw.j0]
    refine EvP.pos trivial (EvP.bind (spec_l8Leaves_ok b i h hc).ev (fun r hr => EvP.now ⟨by simp, by simp, ?_, hr⟩))
    have : 2 ^ 1 ≤ 2 ^ (d + 1) := Nat.pow_le_pow_right (by omega) (by omega)
    simpa using this
  intro d
  induction d with
  | zero =>
    intro _ i h hc
    refine EvP.unfold (fun k => rfl) ?_
    simp only [spec_l8Draw.f]
    exact EvP.pos rfl (leaf _ i h 0 hc)
  | succ d ih =>
    intro hd i h hc
    have ih := ih (by omega)
    refine EvP.unfold (fun k => rfl) ?_
    simp only [spec_l8Draw.f]
    refine EvP.neg (by omega) (EvP.bind (spec_l1Once_ok b i h 4 hc (by omega)).ev (fun r hr => ?_))
    obtain ⟨o, i2, h2⟩ := r
    cases o with
    | true => exact leaf _ i2 h2 (d + 1) hr
    | false =>
      refine EvP.unfold (fun k => rfl) ?_
      simp only [spec_l8Draw.j0]
      refine EvP.neg (by simp) (EvP.bind (spec_l1Once_ok b i2 h2 4 hr (by omega)).ev (fun s hs => ?_))
      have e : wrap64 (((d + 1 : Nat) : Int) - 1) = (d : Int) := by rw [w64 _ (by omega)]; omega
      have e7 : 2 ^ (d + 1 + 1) = 2 * 2 ^ (d + 1) := by rw [Nat.pow_succ 2 (d + 1)]; omega
      have e8 : 2 ^ (d + 1) ≤ 2 ^ 2 := Nat.pow_le_pow_right (by omega) (by omega)
      rw [e]
      refine EvP.ite (fun _ => ?_) (fun _ => ?_)
      · refine EvP.bind (ih s.2.1 s.2.2 hs) (fun t ht => EvP.pos (by omega) (EvP.now ⟨?_, ?_, ?_, ht.2.2.2⟩))
        · simp
        · simp only [List.length_append, List.length_cons, List.length_nil]; omega
        · simp only [List.length_append, List.length_cons, List.length_nil]; omega
      · refine EvP.bind (ih s.2.1 s.2.2 hs) (fun t ht => EvP.bind (ih t.2.1 t.2.2 ht.2.2.2) (fun u hu => EvP.pos (by omega) ?_))
        simp only [Option.bind_some]
        refine EvP.bind (spec_l1Below_ok b _ _ 2 hu.2.2.2 (by omega)).ev (fun v hv => EvP.pos (by rw [List.length_append]; omega) (EvP.now ⟨?_, ?_, ?_, hv.2.2.2⟩))
        · simp; omega
        · simp only [List.length_append, List.length_cons, List.length_nil]; omega
        · simp only [List.length_append, List.length_cons, List.length_nil]; omega

theorem spec_l8Any_ev (b : List Int) (i h : Int) (hc : Cur b i) : EvP (fun k => spec_l8Any.f k b i h) (fun r => r.1.length ≤ 7 ∧ Cur b r.2.1) := by
  simp only [spec_l8Any.f]
  refine EvP.bind (spec_l8Draw_ev b 2 (by omega) i h hc) (fun r hr => EvP.bind (spec_l1Below_ok b _ _ 10 hr.2.2.2 (by omega)).ev (fun s hs => EvP.ite (fun _ => ?_) (fun _ => EvP.ite (fun _ => ?_) (fun _ => EvP.now ⟨hr.2.1, hs.2.2.2⟩))))
  · refine EvP.bind (spec_l1Below_ok b _ _ (r.1.length : Int) hs.2.2.2 (by omega)).ev (fun t ht => EvP.bind (spec_l1Int_ok b _ _ _ ht.2.2.2 (by simp) (by simp)).ev (fun u hu => EvP.pos ht.1 (EvP.pos (ht.2.1 (by omega)) (EvP.now ⟨?_, hu.2⟩))))
    simp only [List.length_set]; exact hr.2.1
  · refine EvP.pos (by omega) (EvP.now ⟨?_, hs.2.2.2⟩)
    simp only [List.length_drop]; omega

theorem spec_DrawIsPattern_ev (l : List Int) (hl : l.length ≤ 140737488351232) : EvP (fun k => spec_DrawIsPattern.f k l) (fun r => r.length ≤ 7) := by
  simp only [spec_DrawIsPattern.f]
  refine EvP.bind (spec_l1New_ev l hl) (fun r hr => ?_)
  have hc : Cur r.1 r.2.1 := by rw [hr.1]; exact hr.2
  exact EvP.bind (spec_l8Any_ev r.1 r.2.1 r.2.2 hc) (fun s hs => EvP.now hs.1)

theorem spec_DrawPatternText_ev (l : List Int) (hl : l.length ≤ 140737488351232) : EvP (fun k => spec_DrawPatternText.f k l) (fun r => r.length ≤ 7) := by
  simp only [spec_DrawPatternText.f]
  exact EvP.bind (spec_DrawIsPattern_ev l hl) (fun r hr => EvP.now hr)

theorem impl_InRange_eq (n a b : Int) : impl_InRange.f n a b = some (inR n a b) := by
  unfold impl_InRange.f inR
  by_cases h : a ≤ n
  · rw [if_pos (by omega)]; simp [h]
  · rw [if_neg (by omega)]; simp [h]

theorem impl_isTest_eq (s : Int) : impl_isTest.f s = some (isLeaf s) := by
  unfold impl_isTest.f isLeaf
  simp only [impl_InRange_eq, Option.bind_some]
  repeat' split
  all_goals simp_all

theorem impl_IsPattern_ev (l : List Int) (hl : l.length ≤ 1048576000) : Ev (fun k => impl_IsPattern.f k l) (isPattern l) := by
  simp only [impl_IsPattern.f]
  refine ev_loop (fun k (s : Int) i => impl_IsPattern.l0 k l s l (l.length : Int) i) l (fun s r => decide (patF s r = some 1) && decide (l.length ≤ 20)) (fun s i => 0 ≤ s ∧ s ≤ i) ?_ ?_ 0 0 (by omega) ⟨by omega, by omega⟩
  · rintro s ⟨h1, h2⟩
    refine ev_unfold (fun k => rfl) ?_
    simp only [impl_IsPattern.l0, impl_InRange_eq, Option.bind_some]
    refine ev_neg (by omega) ?_
    refine ev_ite (fun h => ev_ret ?_) (fun h => ev_ret ?_)
    · rw [inR_iff] at h
      simp [patF]
      by_cases h5 : s = 1
      · simp [h5]; omega
      · simp [h5]
    · rw [inR_iff] at h
      simp [patF]; omega
  · rintro s i hi ⟨h1, h2⟩ ih
    have j1 : ∀ b, (b = true → Ev (fun k => impl_IsPattern.l0 k l s l (l.length : Int) ((i + 1 : Nat) : Int)) (decide (patF s (l.drop (i + 1)) = some 1) && decide (l.length ≤ 20))) → Ev (fun k => impl_IsPattern.j1 k l s l[i] l (l.length : Int) i b) (if b = true then (decide (patF s (l.drop (i + 1)) = some 1) && decide (l.length ≤ 20)) else if l[i] = -2 ∨ l[i] = -3 then (if s ≥ 2 then (decide (patF (s - 1) (l.drop (i + 1)) = some 1) && decide (l.length ≤ 20)) else false) else false) := by
      intro b hb
      refine ev_unfold (fun k => rfl) ?_
      simp only [impl_IsPattern.j1]
      rw [w64next i (by omega), w64 (s - 1) (by omega)]
      refine ev_ite (fun h => ?_) (fun h => ?_)
      · rw [if_pos h]; exact hb h
      · rw [if_neg h]
        refine ev_ite (fun h2 => ?_) (fun h2 => ?_)
        · rw [if_pos (.inl h2)]
          refine ev_ite (fun h3 => ?_) (fun h3 => ?_)
          · rw [if_pos h3]; exact ih _ ⟨by omega, by omega⟩
          · rw [if_neg h3]; exact Ev.now _
        · refine ev_ite (fun h4 => ?_) (fun h4 => ?_)
          · rw [if_pos (.inr h4)]
            refine ev_ite (fun h3 => ?_) (fun h3 => ?_)
            · rw [if_pos h3]; exact ih _ ⟨by omega, by omega⟩
            · rw [if_neg h3]; exact Ev.now _
          · rw [if_neg (by omega)]; exact Ev.now _
    refine ev_unfold (fun k => rfl) ?_
    simp only [impl_IsPattern.l0]
    refine ev_pos (by omega) (ev_pos (by omega) (ev_pos (by omega) (ev_eq (impl_isTest_eq _) ?_)))
    rw [w64next i (by omega), rd_at l i hi, w64 (s + 1) (by omega)]
    unfold patF
    refine ev_ite (fun h => ?_) (fun h => ?_)
    · rw [if_pos h]; exact ih _ ⟨by omega, by omega⟩
    · rw [if_neg h]
      refine ev_ite (fun h2 => ?_) (fun h2 => ?_)
      · rw [if_pos h2]
        refine ev_done (j1 _ (fun _ => ih _ ⟨by omega, by omega⟩)) ?_
        by_cases h3 : s ≥ 1
        · simp [h3]
        · simp [h3]; omega
      · rw [if_neg h2]
        refine ev_done (j1 _ (fun h => by cases h)) ?_
        simp only [Bool.false_eq_true, if_false]
        by_cases h3 : l[i] = -2 ∨ l[i] = -3
        · rw [if_pos h3, if_pos h3]
          by_cases h4 : s ≥ 2
          · rw [if_pos h4, if_pos h4]
          · rw [if_neg h4, if_neg h4]; simp
        · rw [if_neg h3, if_neg h3]; simp

theorem impl_signText_eq (s : Int) (h : isLeaf s = true) : impl_signText.f s = some (signText s) := by
  have hc := leaf_cases h
  have e43 : (⟨#[43]⟩ : ByteArray).size = 1 := rfl
  have e1 : (⟨#[50, 51, 52, 53, 54, 55, 56, 57, 84, 74, 81, 75, 65]⟩ : ByteArray) = rankLetters := rfl
  have e2 : (⟨#[99, 100, 104, 115]⟩ : ByteArray) = suitLetters := rfl
  have hr := rankLetters_size
  have hs := suitLetters_size
  unfold impl_signText.f signText
  rw [e2]
  by_cases h4 : s = 400
  · rw [if_pos h4, if_pos h4]
  · rw [if_neg h4, if_neg h4]
    by_cases h3 : s ≥ 300
    · rw [if_pos h3, if_pos h3, w64 (s - 300) (by omega)]
      rw [e1, w64 (s - 300 + 1) (by omega), if_pos (by omega), if_pos (by omega), if_pos (by omega)]
      have hz := letter_size rankLetters (s - 300) (by omega) (by omega)
      unfold letter at hz ⊢
      rw [if_pos (by omega)]
    · rw [if_neg h3, if_neg h3]
      by_cases h2 : s ≥ 200
      · rw [if_pos h2, if_pos h2, w64 (s - 200) (by omega)]
        rw [e1, w64 (s - 200 + 1) (by omega), if_pos (by omega), if_pos (by omega), if_pos (by omega)]
        rfl
      · rw [if_neg h2, if_neg h2, w64 (s - 100) (by omega), w64 (s - 100 + 1) (by omega), if_pos (by omega), if_pos (by omega), if_pos (by omega)]
        rfl

theorem impl_PatternText_ev (p : List Int) (hl : p.length ≤ 1048576000) : Ev (fun k => impl_PatternText.f k p) (patText p) := by
  have e33 : (⟨#[33]⟩ : ByteArray).size = 1 := rfl
  have e40 : (⟨#[40]⟩ : ByteArray).size = 1 := rfl
  have e38 : (⟨#[38]⟩ : ByteArray).size = 1 := rfl
  have e41 : (⟨#[41]⟩ : ByteArray).size = 1 := rfl
  have e124 : (⟨#[124]⟩ : ByteArray).size = 1 := rfl
  have l0 : isPattern p = true → Ev (fun k => impl_PatternText.l0 k ([] : List ByteArray) p (p.length : Int) 0) ((pileT [] p).getD 0 ByteArray.empty) := by
    intro hp
    have h20 := isPattern_pos hp
    have hpat : patF 0 p = some 1 := by simp [isPattern] at hp; exact hp.1
    refine ev_done (ev_loop (fun k (s : List ByteArray) i => impl_PatternText.l0 k s p (p.length : Int) i) p (fun s r => (pileT s r).getD 0 ByteArray.empty) (fun s i => patF (s.length : Int) (p.drop i) = some 1 ∧ s.length ≤ i ∧ i ≤ 20 ∧ ∀ x ∈ s, x.size + 3 ≤ 3 * 2 ^ i) ?_ ?_ [] 0 (by omega) ⟨by simpa using hpat, by simp, by omega, by simp⟩) rfl
    · rintro s ⟨h1, h2, _, _⟩
      rw [drop_end] at h1
      have h3 : (s.length : Int) = 1 := by simpa [patF] using h1
      refine ev_unfold (fun k => rfl) ?_
      simp only [impl_PatternText.l0]
      exact ev_neg (by omega) (ev_pos (by omega) (ev_ret rfl))
    · rintro s i hi ⟨h1, h2, hi2, hsz⟩ ih
      rw [drop_at p i hi] at h1
      obtain ⟨g1, g2, g3, g4, g5, g6⟩ := stepX_length h1
      have hpow : 2 ^ i ≤ 2 ^ 20 := Nat.pow_le_pow_right (by omega) hi2
      have hpos : 1 ≤ 2 ^ i := Nat.one_le_two_pow
      have k1 := topT_size hsz (by omega) 1
      have k2 := topT_size hsz (by omega) 2
      have ih := ih (stepX s p[i]) ⟨g1, by omega, by omega, fun x hx => by have := stepX_size hsz (by omega) g6 x hx; rw [Nat.pow_succ]; omega⟩
      have e : pileT s (p[i] :: p.drop (i + 1)) = pileT (stepX s p[i]) (p.drop (i + 1)) := rfl
      rw [e]
      refine ev_unfold (fun k => rfl) ?_
      simp only [impl_PatternText.l0, Option.bind_some]
      rw [w64next i (by omega), rd_at p i hi]
      refine ev_pos (by omega) (ev_pos (by omega) (ev_pos (by omega) (ev_ite (fun h => ?_) (fun h => ?_))))
      · have hs := g2 h
        have ew : wrap64 ((s.length : Int) - 1) = ((s.length - 1 : Nat) : Int) := by rw [w64 _ (by omega)]; omega
        have er : rdOf ByteArray.empty s ((s.length - 1 : Nat) : Int) = topT s 1 := by unfold rdOf topT; rw [Int.toNat_natCast]
        rw [ew, er, Int.toNat_natCast]
        refine ev_pos (by omega) (ev_pos (by omega) (ev_pos (by omega) ?_))
        have e2 : s.set (s.length - 1) ((⟨#[33]⟩ : ByteArray) ++ topT s 1) = stepX s p[i] := by unfold stepX; rw [if_pos h]
        rw [e2]; exact ih
      · have two : ∀ (hs : 2 ≤ s.length), wrap64 ((s.length : Int) - 2) = ((s.length - 2 : Nat) : Int) ∧ wrap64 ((s.length : Int) - 1) = ((s.length - 1 : Nat) : Int) ∧ rdOf ByteArray.empty s ((s.length - 2 : Nat) : Int) = topT s 2 ∧ rdOf ByteArray.empty s ((s.length - 1 : Nat) : Int) = topT s 1 := by
          intro hs
          refine ⟨by rw [w64 _ (by omega)]; omega, by rw [w64 _ (by omega)]; omega, ?_, ?_⟩
          · unfold rdOf topT; rw [Int.toNat_natCast]
          · unfold rdOf topT; rw [Int.toNat_natCast]
        refine ev_ite (fun h2 => ?_) (fun h2 => ?_)
        · have hs := g3 h2
          obtain ⟨w2, w1, r2, r1⟩ := two hs
          rw [w2, w1, r2, r1, Int.toNat_natCast]
          simp only [ByteArray.size_append]
          refine ev_pos (by omega) (ev_pos (by omega) (ev_pos (by omega) (ev_pos (by omega) (ev_pos (by omega) (ev_pos (by omega) (ev_pos (by omega) (ev_pos (by omega) (ev_pos (by omega) (ev_pos (by rw [List.length_take]; omega) ?_)))))))))
          have e2 : s.take (s.length - 2) ++ [⟨#[40]⟩ ++ topT s 2 ++ ⟨#[38]⟩ ++ topT s 1 ++ ⟨#[41]⟩] = stepX s p[i] := by unfold stepX; rw [if_neg h, if_pos h2]
          rw [e2]; exact ih
        · refine ev_ite (fun h3 => ?_) (fun h3 => ?_)
          · have hs := g4 h3
            obtain ⟨w2, w1, r2, r1⟩ := two hs
            rw [w2, w1, r2, r1, Int.toNat_natCast]
            simp only [ByteArray.size_append]
            refine ev_pos (by omega) (ev_pos (by omega) (ev_pos (by omega) (ev_pos (by omega) (ev_pos (by omega) (ev_pos (by omega) (ev_pos (by omega) (ev_pos (by omega) (ev_pos (by omega) (ev_pos (by rw [List.length_take]; omega) ?_)))))))))
            have e2 : s.take (s.length - 2) ++ [⟨#[40]⟩ ++ topT s 2 ++ ⟨#[124]⟩ ++ topT s 1 ++ ⟨#[41]⟩] = stepX s p[i] := by unfold stepX; rw [if_neg h, if_neg h2, if_pos h3]
            rw [e2]; exact ih
          · have hL := g6 h h2 h3
            refine ev_eq (impl_signText_eq _ hL) (ev_pos (by omega) ?_)
            have e2 : s ++ [signText p[i]] = stepX s p[i] := by unfold stepX; rw [if_neg h, if_neg h2, if_neg h3]
            rw [e2]; exact ih
  simp only [impl_PatternText.f]
  unfold patText
  refine Ev.bind (impl_IsPattern_ev p hl) (ev_ite (fun h => ?_) (fun h => ev_ret ?_))
  · rw [if_pos h]; exact l0 h
  · rw [if_neg h]

theorem strings_IndexByte_eq (s : ByteArray) (c : Int) : strings_IndexByte.f s c = some (idxOf s c) := rfl

theorem impl_next_in (s : ByteArray) (i : Nat) (h : i < s.size) : impl_notation_read.next s (i : Int) = some (bt s (i : Int)) := by
  unfold impl_notation_read.next
  rw [if_pos (by omega), if_pos (by omega)]
theorem impl_next_out (s : ByteArray) (i : Nat) (h : ¬ i < s.size) : impl_notation_read.next s (i : Int) = some 0 := by
  unfold impl_notation_read.next
  rw [if_neg (by omega)]
/-- What the program's reader hands back. -/
def rdImpl (o : Option (List Int × Nat)) (out : List Int) (r : Bool × Int × List Int) : Prop :=
  match o with
  | some (p, e) => r = (true, (e : Int), out ++ p)
  | none => r.1 = false
theorem idx_byte (s : ByteArray) (c : Int) : strings_IndexByte.f s c = some (idxOf s c) := rfl
theorem impl_read_ev (s : ByteArray) (hs : s.size ≤ 1048576000) : ∀ (n i : Nat) (out : List Int), s.size < i + n → out.length ≤ i → i ≤ s.size + 1 → EvP (fun k => impl_notation_read.f k s (i : Int) out) (rdImpl (rdF s n i) out) := by
  intro n
  induction n with
  | zero =>
    intro i out h ho hle
    refine EvP.unfold (fun k => rfl) ?_
    simp only [impl_notation_read.f]
    rw [impl_next_out s i (by omega)]
    simp only [Option.bind_some]
    exact EvP.pos trivial (EvP.now rfl)
  | succ n ih =>
    intro i out h ho hle
    refine EvP.unfold (fun k => rfl) ?_
    simp only [impl_notation_read.f]
    by_cases hi : i < s.size
    rotate_left
    · rw [impl_next_out s i hi]
      simp only [Option.bind_some]
      refine EvP.pos trivial (EvP.now ?_)
      unfold rdF; rw [if_neg hi]; rfl
    rw [impl_next_in s i hi]
    simp only [Option.bind_some]
    have hr := Lib.bt_range s i
    have hu := idx_suit_le hr.1 hr.2
    have hk := idx_rank_le hr.1 hr.2
    rw [w64next i (by omega)]
    unfold rdF
    rw [if_pos hi]
    refine EvP.ite (fun c => ?_) (fun c0 => ?_)
    · rw [c, if_neg (by omega), if_neg (by omega), if_neg (by omega), suit_33.1, if_neg (by omega), suit_33.2, if_pos (by omega)]
      exact EvP.now rfl
    refine EvP.ite (fun c => ?_) (fun c => ?_)
    · rw [if_pos c]
      refine EvP.bind (ih (i + 1) out (by omega) (by omega) (by omega)) (fun r hr => ?_)
      cases hx : rdF s n (i + 1) with
      | none =>
        rw [hx] at hr
        have hr2 : r.1 = false := hr
        exact EvP.neg (by rw [hr2]; simp) (EvP.now rfl)
      | some ax =>
        obtain ⟨a, x⟩ := ax
        rw [hx] at hr
        have hr2 : r = (true, (x : Int), out ++ a) := hr
        have hl := rdF_le s n (i + 1) a x hx
        subst hr2
        refine EvP.pos rfl (EvP.pos (by simp only [List.length_append]; omega) (EvP.now ?_))
        show _ = (true, (x : Int), out ++ (a ++ [-1]))
        rw [List.append_assoc]
    rw [if_neg c]
    refine EvP.ite (fun c => ?_) (fun c => ?_)
    · rw [if_pos c]
      refine EvP.unfold (fun k => rfl) ?_
      simp only [impl_notation_read.pair]
      refine EvP.bind (ih (i + 1) out (by omega) (by omega) (by omega)) (fun r hr => ?_)
      cases hx : rdF s n (i + 1) with
      | none =>
        rw [hx] at hr
        have hr2 : r.1 = false := hr
        exact EvP.neg (by rw [hr2]; simp) (EvP.now rfl)
      | some ax =>
        obtain ⟨a, x⟩ := ax
        rw [hx] at hr
        have hr2 : r = (true, (x : Int), out ++ a) := hr
        have hl := rdF_le s n (i + 1) a x hx
        subst hr2
        refine EvP.pos rfl ?_
        simp only [Option.bind_some]
        by_cases hxs : x < s.size
        rotate_left
        · rw [impl_next_out s x hxs]
          simp only [Option.bind_some]
          rw [if_neg (show ¬ (x < s.size ∧ (bt s (x : Int) = 38 ∨ bt s (x : Int) = 124)) from fun h => hxs h.1)]
          exact EvP.neg (by omega) (EvP.neg (by omega) (EvP.now rfl))
        rw [impl_next_in s x hxs]
        simp only [Option.bind_some]
        have tail : ∀ z : Int, EvP (fun k => impl_notation_read.tail k s (x : Int) (out ++ a) z) (rdImpl ((rdF s n (x + 1)).bind fun b => if b.2 < s.size ∧ bt s (b.2 : Int) = 41 then some (a ++ b.1 ++ [z], b.2 + 1) else none) out) := by
          intro z
          refine EvP.unfold (fun k => rfl) ?_
          simp only [impl_notation_read.tail]
          rw [w64next x (by omega)]
          refine EvP.bind (ih (x + 1) (out ++ a) (by omega) (by rw [List.length_append]; omega) (by omega)) (fun q hq => ?_)
          cases hy : rdF s n (x + 1) with
          | none =>
            rw [hy] at hq
            have hq2 : q.1 = false := hq
            exact EvP.neg (by rw [hq2]; simp) (EvP.now rfl)
          | some by_ =>
            obtain ⟨b, y⟩ := by_
            rw [hy] at hq
            have hq2 : q = (true, (y : Int), out ++ a ++ b) := hq
            have hl2 := rdF_le s n (x + 1) b y hy
            subst hq2
            refine EvP.pos rfl ?_
            simp only [Option.bind_some]
            by_cases hys : y < s.size
            rotate_left
            · rw [impl_next_out s y hys]
              simp only [Option.bind_some]
              rw [if_neg (show ¬ (y < s.size ∧ bt s (y : Int) = 41) from fun h => hys h.1)]
              exact EvP.neg (by omega) (EvP.now rfl)
            rw [impl_next_in s y hys]
            simp only [Option.bind_some]
            refine EvP.ite (fun c4 => ?_) (fun c4 => ?_)
            · rw [if_pos (show y < s.size ∧ bt s (y : Int) = 41 from ⟨hys, c4⟩), w64next y (by omega)]
              refine EvP.pos (by simp only [List.length_append]; omega) (EvP.now ?_)
              show _ = (true, ((y + 1 : Nat) : Int), out ++ (a ++ b ++ [z]))
              simp only [List.append_assoc]
            · rw [if_neg (show ¬ (y < s.size ∧ bt s (y : Int) = 41) from fun h => c4 h.2)]
              exact EvP.now rfl
        refine EvP.ite (fun c2 => ?_) (fun c2 => EvP.ite (fun c3 => ?_) (fun c3 => ?_))
        · rw [if_pos (show x < s.size ∧ (bt s (x : Int) = 38 ∨ bt s (x : Int) = 124) from ⟨hxs, .inl c2⟩), if_neg (show ¬ bt s (x : Int) = 124 by omega)]; exact tail (-2)
        · rw [if_pos (show x < s.size ∧ (bt s (x : Int) = 38 ∨ bt s (x : Int) = 124) from ⟨hxs, .inr c3⟩), if_pos c3]; exact tail (-3)
        · rw [if_neg (show ¬ (x < s.size ∧ (bt s (x : Int) = 38 ∨ bt s (x : Int) = 124)) from fun h => h.2.elim c2 c3)]; exact EvP.now rfl
    rw [if_neg c]
    refine EvP.ite (fun c => ?_) (fun c => ?_)
    · rw [if_pos c]
      exact EvP.pos (by omega) (EvP.now rfl)
    rw [if_neg c, idx_byte, idx_byte]
    simp only [Option.bind_some]
    have e1 : (⟨#[99, 100, 104, 115]⟩ : ByteArray) = suitLetters := rfl
    have e2 : (⟨#[50, 51, 52, 53, 54, 55, 56, 57, 84, 74, 81, 75, 65]⟩ : ByteArray) = rankLetters := rfl
    rw [e1, e2]
    refine EvP.ite (fun c => ?_) (fun c => ?_)
    · rw [if_pos c, w64 _ (by omega)]
      exact EvP.pos (by omega) (EvP.now rfl)
    rw [if_neg (show ¬ 0 ≤ idxOf suitLetters (bt s (i : Int)) by omega)]
    refine EvP.ite (fun c => ?_) (fun c => ?_)
    · rw [if_pos c]; exact EvP.now rfl
    rw [if_neg c, w64 (200 + idxOf rankLetters (bt s (i : Int))) (by omega), w64 (300 + idxOf rankLetters (bt s (i : Int))) (by omega)]
    by_cases h1 : i + 1 < s.size
    · rw [impl_next_in s (i + 1) h1]
      simp only [Option.bind_some]
      refine EvP.ite (fun c2 => ?_) (fun c2 => ?_)
      · rw [if_pos (show i + 1 < s.size ∧ bt s ((i + 1 : Nat) : Int) = 43 from ⟨h1, c2⟩), w64next (i + 1) (by omega)]
        exact EvP.pos (by omega) (EvP.now rfl)
      · rw [if_neg (show ¬ (i + 1 < s.size ∧ bt s ((i + 1 : Nat) : Int) = 43) from fun h => c2 h.2)]
        exact EvP.pos (by omega) (EvP.now rfl)
    · rw [impl_next_out s (i + 1) h1]
      simp only [Option.bind_some]
      rw [if_neg (show ¬ (i + 1 < s.size ∧ bt s ((i + 1 : Nat) : Int) = 43) from fun h => h1 h.1)]
      exact EvP.neg (by omega) (EvP.pos (by omega) (EvP.now rfl))

theorem impl_ParsePattern_ev (s : ByteArray) (hs : s.size ≤ 1048576000) : Ev (fun k => impl_ParsePattern.f k s) (parsePat s) := by
  have h60 : ∀ p, patText p = s → s.size ≤ 60 := fun p h => by rw [← h]; exact patText_size p
  simp only [impl_ParsePattern.f]
  unfold parsePat
  refine ev_ite (fun c => ev_ret ?_) (fun c => ?_)
  · split
    · rfl
    · rw [if_neg (fun h => by have := h60 _ h; omega)]
  refine EvP.use (impl_read_ev s hs (s.size + 1) 0 [] (by omega) (by simp) (by omega)) (fun r hr => ?_)
  cases hx : rdF s (s.size + 1) 0 with
  | none =>
    rw [hx] at hr
    have hr2 : r.1 = false := hr
    exact ev_neg (by rw [hr2]; simp) (ev_ret rfl)
  | some px =>
    obtain ⟨p, e⟩ := px
    rw [hx] at hr
    have hr2 : r = (true, (e : Int), [] ++ p) := hr
    have hl := rdF_le s _ 0 p e hx
    subst hr2
    rw [List.nil_append]
    refine ev_pos rfl (Ev.bind (impl_PatternText_ev p (by omega)) (ev_ite (fun c2 => ev_ret ?_) (fun c2 => ev_ret ?_)))
    · show ((p, true) : List Int × Bool) = if patText p = s then (p, true) else ([], false)
      rw [if_pos (bytes_eq.1 c2)]
    · show (([], false) : List Int × Bool) = if patText p = s then (p, true) else ([], false)
      rw [if_neg (fun h => c2 (bytes_eq.2 h))]

theorem spec_l1In_eq (n a b : Int) : spec_l1In.f n a b = some (inR n a b) := by
  unfold spec_l1In.f inR
  by_cases h : a ≤ n
  · rw [if_pos (by omega)]; simp [h]
  · rw [if_neg (by omega)]; simp [h]

theorem spec_l8Leaf_eq (s : Int) : spec_l8Leaf.f s = some (isLeaf s) := by
  unfold spec_l8Leaf.f isLeaf
  simp only [spec_l1In_eq, Option.bind_some]
  repeat' split
  all_goals simp_all

theorem spec_IsPattern_ev (l : List Int) (hl : l.length ≤ 1048576000) : Ev (fun k => spec_IsPattern.f k l) (isPattern l) := by
  simp only [spec_IsPattern.f]
  refine ev_loop (fun k (s : Int) i => spec_IsPattern.l0 k l s i) l (fun s r => decide (patF s r = some 1) && decide (l.length ≤ 20)) (fun s i => 0 ≤ s ∧ s ≤ i) ?_ ?_ 0 0 (by omega) ⟨by omega, by omega⟩
  · rintro s ⟨h1, h2⟩
    refine ev_unfold (fun k => rfl) ?_
    simp only [spec_IsPattern.l0]
    refine ev_neg (by omega) ?_
    refine ev_ite (fun h => ev_ret ?_) (fun h => ev_ret ?_)
    · simp [patF, h]; omega
    · simp [patF, h]
  · rintro s i hi ⟨h1, h2⟩ ih
    have j1 : ∀ b, (b = true → Ev (fun k => spec_IsPattern.l0 k l s ((i + 1 : Nat) : Int)) (decide (patF s (l.drop (i + 1)) = some 1) && decide (l.length ≤ 20))) → Ev (fun k => spec_IsPattern.j1 k l s i b) (if b = true then (decide (patF s (l.drop (i + 1)) = some 1) && decide (l.length ≤ 20)) else if l[i] = -2 ∨ l[i] = -3 then (if s ≥ 2 then (decide (patF (s - 1) (l.drop (i + 1)) = some 1) && decide (l.length ≤ 20)) else false) else false) := by
      intro b hb
      refine ev_unfold (fun k => rfl) ?_
      simp only [spec_IsPattern.j1]
      rw [w64next i (by omega), rd_at l i hi, w64 (s - 1) (by omega)]
      refine ev_ite (fun h => ?_) (fun h => ?_)
      · rw [if_pos h]; exact hb h
      · rw [if_neg h]
        refine ev_pos (by omega) (ev_pos (by omega) ?_)
        refine ev_ite (fun h2 => ?_) (fun h2 => ?_)
        · rw [if_pos (.inl h2)]
          refine ev_ite (fun h3 => ?_) (fun h3 => ?_)
          · rw [if_pos h3]; exact ih _ ⟨by omega, by omega⟩
          · rw [if_neg h3]; exact Ev.now _
        · refine ev_ite (fun h4 => ?_) (fun h4 => ?_)
          · rw [if_pos (.inr h4)]
            refine ev_ite (fun h3 => ?_) (fun h3 => ?_)
            · rw [if_pos h3]; exact ih _ ⟨by omega, by omega⟩
            · rw [if_neg h3]; exact Ev.now _
          · rw [if_neg (by omega)]; exact Ev.now _
    refine ev_unfold (fun k => rfl) ?_
    simp only [spec_IsPattern.l0]
    refine ev_pos (by omega) (ev_pos (by omega) (ev_eq (spec_l8Leaf_eq _) ?_))
    rw [w64next i (by omega), rd_at l i hi, w64 (s + 1) (by omega)]
    unfold patF
    refine ev_ite (fun h => ?_) (fun h => ?_)
    · rw [if_pos h]; exact ih _ ⟨by omega, by omega⟩
    · rw [if_neg h]
      refine ev_ite (fun h2 => ?_) (fun h2 => ?_)
      · rw [if_pos h2]
        refine ev_done (j1 _ (fun _ => ih _ ⟨by omega, by omega⟩)) ?_
        by_cases h3 : s ≥ 1
        · simp [h3]
        · simp [h3]; omega
      · rw [if_neg h2]
        refine ev_done (j1 _ (fun h => by cases h)) ?_
        simp only [Bool.false_eq_true, if_false]
        by_cases h3 : l[i] = -2 ∨ l[i] = -3
        · rw [if_pos h3, if_pos h3]
          by_cases h4 : s ≥ 2
          · rw [if_pos h4, if_pos h4]
          · rw [if_neg h4, if_neg h4]; simp
        · rw [if_neg h3, if_neg h3]; simp

theorem laws_sameInts_ev (a b : List Int) (hl : a.length ≤ 1048576000) : Ev (fun k => laws_sameInts.f k a b) (decide (a = b)) := by
  simp only [laws_sameInts.f]
  refine ev_ite (fun h => ?_) (fun h => ev_ret ?_)
  · have hlen : a.length = b.length := by omega
    have key : ∀ (d i : Nat), i + d = a.length → a.take i = b.take i → Ev (fun k => laws_sameInts.l0 k a b (i : Int)) (decide (a = b)) := by
      intro d
      induction d with
      | zero =>
        intro i hd ht
        refine ev_unfold (fun k => rfl) ?_
        simp only [laws_sameInts.l0]
        refine ev_neg (by omega) (ev_ret ?_)
        rw [List.take_of_length_le (by omega), List.take_of_length_le (by omega)] at ht
        simp [ht]
      | succ d ih =>
        intro i hd ht
        refine ev_unfold (fun k => rfl) ?_
        simp only [laws_sameInts.l0]
        rw [w64next i (by omega), rd_at a i (by omega), rd_at b i (by omega)]
        refine ev_pos (by omega) (ev_pos (by omega) (ev_pos (by omega) (ev_ite (fun h2 => ih (i + 1) (by omega) ?_) (fun h2 => ev_ret ?_))))
        · rw [take_at a i (by omega), take_at b i (by omega), ht, h2]
        · refine (decide_eq_false ?_).symm
          intro e
          subst e
          exact h2 rfl
    exact key a.length 0 (by omega) (by simp)
  · exact (decide_eq_false (fun e => h (by rw [e]))).symm

theorem spec_l9Rank_eq (r : Int) (h0 : 0 ≤ r) (h1 : r ≤ 12) : spec_l9Rank.f r = some (letter rankLetters r) := by
  have e1 : (⟨#[50, 51, 52, 53, 54, 55, 56, 57, 84, 74, 81, 75, 65]⟩ : ByteArray) = rankLetters := rfl
  unfold spec_l9Rank.f
  rw [e1, w64 (r + 1) (by omega), if_pos h0, if_pos (by omega), if_pos (by omega)]
  rfl

theorem spec_l9Leaf_eq (s : Int) (h : isLeaf s = true) : spec_l9Leaf.f s = some (signText s) := by
  have hc := leaf_cases h
  have e43 : (⟨#[43]⟩ : ByteArray).size = 1 := rfl
  have e1 : (⟨#[50, 51, 52, 53, 54, 55, 56, 57, 84, 74, 81, 75, 65]⟩ : ByteArray) = rankLetters := rfl
  have e2 : (⟨#[99, 100, 104, 115]⟩ : ByteArray) = suitLetters := rfl
  have hr := rankLetters_size
  have hs := suitLetters_size
  unfold spec_l9Leaf.f signText
  rw [e2]
  by_cases h4 : s = 400
  · rw [if_pos h4, if_pos h4]
  · rw [if_neg h4, if_neg h4]
    by_cases h3 : s ≥ 300
    · rw [if_pos h3, if_pos h3, w64 (s - 300) (by omega)]
      rw [spec_l9Rank_eq _ (by omega) (by omega), Option.bind_some, letter_size _ _ (by omega) (by omega), if_pos (by omega)]
    · rw [if_neg h3, if_neg h3]
      by_cases h2 : s ≥ 200
      · rw [if_pos h2, if_pos h2, w64 (s - 200) (by omega)]
        rw [spec_l9Rank_eq _ (by omega) (by omega), Option.bind_some]
      · rw [if_neg h2, if_neg h2, w64 (s - 100) (by omega), w64 (s - 100 + 1) (by omega), if_pos (by omega), if_pos (by omega), if_pos (by omega)]
        rfl

theorem spec_PatternText_ev (p : List Int) (hl : p.length ≤ 1048576000) : Ev (fun k => spec_PatternText.f k p) (patText p) := by
  have e33 : (⟨#[33]⟩ : ByteArray).size = 1 := rfl
  have e40 : (⟨#[40]⟩ : ByteArray).size = 1 := rfl
  have e38 : (⟨#[38]⟩ : ByteArray).size = 1 := rfl
  have e41 : (⟨#[41]⟩ : ByteArray).size = 1 := rfl
  have e124 : (⟨#[124]⟩ : ByteArray).size = 1 := rfl
  have l0 : isPattern p = true → Ev (fun k => spec_PatternText.l0 k p ([] : List ByteArray) 0) ((pileT [] p).getD 0 ByteArray.empty) := by
    intro hp
    have h20 := isPattern_pos hp
    have hpat : patF 0 p = some 1 := by simp [isPattern] at hp; exact hp.1
    refine ev_done (ev_loop (fun k (s : List ByteArray) i => spec_PatternText.l0 k p s i) p (fun s r => (pileT s r).getD 0 ByteArray.empty) (fun s i => patF (s.length : Int) (p.drop i) = some 1 ∧ s.length ≤ i ∧ i ≤ 20 ∧ ∀ x ∈ s, x.size + 3 ≤ 3 * 2 ^ i) ?_ ?_ [] 0 (by omega) ⟨by simpa using hpat, by simp, by omega, by simp⟩) rfl
    · rintro s ⟨h1, h2, _, _⟩
      rw [drop_end] at h1
      have h3 : (s.length : Int) = 1 := by simpa [patF] using h1
      refine ev_unfold (fun k => rfl) ?_
      simp only [spec_PatternText.l0]
      exact ev_neg (by omega) (ev_pos (by omega) (ev_ret rfl))
    · rintro s i hi ⟨h1, h2, hi2, hsz⟩ ih
      rw [drop_at p i hi] at h1
      obtain ⟨g1, g2, g3, g4, g5, g6⟩ := stepX_length h1
      have hpow : 2 ^ i ≤ 2 ^ 20 := Nat.pow_le_pow_right (by omega) hi2
      have hpos : 1 ≤ 2 ^ i := Nat.one_le_two_pow
      have k1 := topT_size hsz (by omega) 1
      have k2 := topT_size hsz (by omega) 2
      have ih := ih (stepX s p[i]) ⟨g1, by omega, by omega, fun x hx => by have := stepX_size hsz (by omega) g6 x hx; rw [Nat.pow_succ]; omega⟩
      have e : pileT s (p[i] :: p.drop (i + 1)) = pileT (stepX s p[i]) (p.drop (i + 1)) := rfl
      rw [e]
      refine ev_unfold (fun k => rfl) ?_
      simp only [spec_PatternText.l0, Option.bind_some]
      rw [w64next i (by omega), rd_at p i hi]
      refine ev_pos (by omega) (ev_pos (by omega) (ev_ite (fun h => ?_) (fun h => ?_)))
      · have hs := g2 h
        have ew : wrap64 ((s.length : Int) - 1) = ((s.length - 1 : Nat) : Int) := by rw [w64 _ (by omega)]; omega
        have er : rdOf ByteArray.empty s ((s.length - 1 : Nat) : Int) = topT s 1 := by unfold rdOf topT; rw [Int.toNat_natCast]
        rw [ew, er, Int.toNat_natCast]
        refine ev_pos (by omega) (ev_pos (by omega) (ev_pos (by omega) ?_))
        have e2 : s.set (s.length - 1) ((⟨#[33]⟩ : ByteArray) ++ topT s 1) = stepX s p[i] := by unfold stepX; rw [if_pos h]
        rw [e2]; exact ih
      · have two : ∀ (hs : 2 ≤ s.length), wrap64 ((s.length : Int) - 2) = ((s.length - 2 : Nat) : Int) ∧ wrap64 ((s.length : Int) - 1) = ((s.length - 1 : Nat) : Int) ∧ rdOf ByteArray.empty s ((s.length - 2 : Nat) : Int) = topT s 2 ∧ rdOf ByteArray.empty s ((s.length - 1 : Nat) : Int) = topT s 1 := by
          intro hs
          refine ⟨by rw [w64 _ (by omega)]; omega, by rw [w64 _ (by omega)]; omega, ?_, ?_⟩
          · unfold rdOf topT; rw [Int.toNat_natCast]
          · unfold rdOf topT; rw [Int.toNat_natCast]
        refine ev_ite (fun h2 => ?_) (fun h2 => ?_)
        · have hs := g3 h2
          obtain ⟨w2, w1, r2, r1⟩ := two hs
          rw [w2, w1, r2, r1, Int.toNat_natCast]
          simp only [ByteArray.size_append]
          refine ev_pos (by omega) (ev_pos (by omega) (ev_pos (by omega) (ev_pos (by omega) (ev_pos (by omega) (ev_pos (by omega) (ev_pos (by omega) (ev_pos (by omega) (ev_pos (by omega) (ev_pos (by rw [List.length_take]; omega) ?_)))))))))
          have e2 : s.take (s.length - 2) ++ [⟨#[40]⟩ ++ topT s 2 ++ ⟨#[38]⟩ ++ topT s 1 ++ ⟨#[41]⟩] = stepX s p[i] := by unfold stepX; rw [if_neg h, if_pos h2]
          rw [e2]; exact ih
        · refine ev_ite (fun h3 => ?_) (fun h3 => ?_)
          · have hs := g4 h3
            obtain ⟨w2, w1, r2, r1⟩ := two hs
            rw [w2, w1, r2, r1, Int.toNat_natCast]
            simp only [ByteArray.size_append]
            refine ev_pos (by omega) (ev_pos (by omega) (ev_pos (by omega) (ev_pos (by omega) (ev_pos (by omega) (ev_pos (by omega) (ev_pos (by omega) (ev_pos (by omega) (ev_pos (by omega) (ev_pos (by rw [List.length_take]; omega) ?_)))))))))
            have e2 : s.take (s.length - 2) ++ [⟨#[40]⟩ ++ topT s 2 ++ ⟨#[124]⟩ ++ topT s 1 ++ ⟨#[41]⟩] = stepX s p[i] := by unfold stepX; rw [if_neg h, if_neg h2, if_pos h3]
            rw [e2]; exact ih
          · have hL := g6 h h2 h3
            refine ev_eq (spec_l9Leaf_eq _ hL) (ev_pos (by omega) ?_)
            have e2 : s ++ [signText p[i]] = stepX s p[i] := by unfold stepX; rw [if_neg h, if_neg h2, if_neg h3]
            rw [e2]; exact ih
  simp only [spec_PatternText.f]
  unfold patText
  refine Ev.bind (spec_IsPattern_ev p hl) (ev_ite (fun h => ?_) (fun h => ev_ret ?_))
  · rw [if_pos h]; exact l0 h
  · rw [if_neg h]

theorem spec_l1Str_ok (b : List Int) (i h : Int) (l : List ByteArray) (hc : Cur b i) (h0 : 0 < l.length) (hl : l.length ≤ 1000000000) : OkP (spec_l1Str.f b i h l) (fun r => r.1 ∈ l ∧ Cur b r.2.1) := by
  unfold spec_l1Str.f
  refine (spec_l1Below_ok b i h (l.length : Int) hc (by omega)).bind (fun r hr => OkP.pos hr.1 (OkP.pos (hr.2.1 (by omega)) (OkP.now ⟨?_, hr.2.2.2⟩)))
  have h1 := hr.1
  have h2 := hr.2.1 (by omega)
  simp only
  unfold rdOf
  rw [List.getD_eq_getElem?_getD, List.getElem?_eq_getElem (by omega)]
  exact List.getElem_mem _

theorem spec_DrawParsePattern_ev (l : List Int) (hl : l.length ≤ 140737488351232) : EvP (fun k => spec_DrawParsePattern.f k l) (fun r => r.size ≤ 100) := by
  simp only [spec_DrawParsePattern.f]
  refine EvP.bind (spec_l1New_ev l hl) (fun r hr => ?_)
  have hc : Cur r.1 r.2.1 := by rw [hr.1]; exact hr.2
  refine EvP.bind (spec_l8Any_ev r.1 r.2.1 r.2.2 hc) (fun s hs => ?_)
  have h7 := hs.1
  have h60 := patText_size s.1
  refine EvP.bind (EvP.of (P := fun x => x = patText s.1) (spec_PatternText_ev s.1 (by omega)) rfl) (fun t ht => ?_)
  subst ht
  have h1 : ((⟨#[41]⟩ : ByteArray)).size = 1 := rfl
  refine EvP.pos (by omega) (EvP.bind (spec_l1Str_ok r.1 _ _ _ hs.2 (by simp) (by simp)).ev (fun u hu => EvP.now ?_))
  have hm := hu.1
  simp only [List.mem_cons, List.not_mem_nil, or_false] at hm
  rcases hm with h | h | h | h | h | h | h | h | h | h | h | h | h | h <;> rw [h]
  · omega
  · omega
  · omega
  · rw [ByteArray.size_append]; omega
  all_goals decide

theorem spec_HasCard_ev (l : List Int) (c : Int) (hl : l.length ≤ 1048576000) : Ev (fun k => spec_HasCard.f k l c) (hasCard l c) := by
  simp only [spec_HasCard.f]
  refine ev_done (ev_loop (fun k (_ : Unit) i => spec_HasCard.l0 k l c i) l (fun _ r => hasCard r c) (fun _ _ => True) ?_ ?_ () 0 (by omega) trivial) rfl
  · rintro s _
    refine ev_unfold (fun k => rfl) ?_
    simp only [spec_HasCard.l0]
    exact ev_neg (by omega) (ev_ret (by simp [hasCard]))
  · rintro s i hi _ ih
    refine ev_unfold (fun k => rfl) ?_
    simp only [spec_HasCard.l0]
    rw [w64next i (by omega), rd_at l i hi]
    refine ev_pos (by omega) (ev_pos (by omega) (ev_ite (fun h => ev_ret ?_) (fun h => ev_done (ih () trivial) ?_)))
    · simp [hasCard, h]
    · have h2 : ¬ c = l[i] := fun e => h e.symm
      simp only [hasCard, List.mem_cons]
      exact decide_eq_decide.2 ⟨fun h => .inr h, fun h => h.resolve_left h2⟩

theorem spec_l5Some_ev (b : List Int) (i h n : Int) (hc : Cur b i) (hn : n ≤ 40) : EvP (fun k => spec_l5Some.f k b i h n) (fun r => r.1.length ≤ 40 ∧ Cur b r.2.1) := by
  -- the search for a card that isn't there ends
  have l1 : ∀ (out : List Int) (j i h : Int), out.length < 52 → (∀ c : Int, EvP (fun k => spec_l5Some.l0 k n (out ++ [c]) (wrap64 (j + 1)) b i h) (fun r => r.1.length ≤ 40 ∧ Cur b r.2.1)) →
      ∀ (d x : Nat), x < 52 → (((x + 7 * d) % 52 : Nat) : Int) ∉ out → EvP (fun k => spec_l5Some.l1 k n out j (x : Int) b i h) (fun r => r.1.length ≤ 40 ∧ Cur b r.2.1) := by
    intro out j i h ho hk d
    induction d with
    | zero =>
      intro x hx hd
      have e : (x + 7 * 0) % 52 = x := by omega
      rw [e] at hd
      refine EvP.unfold (fun k => rfl) ?_
      simp only [spec_l5Some.l1]
      refine EvP.bind (EvP.of (P := fun a => a = hasCard out (x : Int)) (spec_HasCard_ev out (x : Int) (by omega)) rfl) (fun a ha => ?_)
      have : a = false := by rw [ha]; simp [hasCard, hd]
      rw [this]
      exact EvP.neg (by simp) (EvP.pos (by omega) (hk _))
    | succ d ih =>
      intro x hx hd
      refine EvP.unfold (fun k => rfl) ?_
      simp only [spec_l5Some.l1]
      refine EvP.bind (EvP.of (P := fun a => a = hasCard out (x : Int)) (spec_HasCard_ev out (x : Int) (by omega)) rfl) (fun a ha => EvP.ite (fun _ => ?_) (fun _ => EvP.pos (by omega) (hk _)))
      have e : Int.tmod (wrap64 ((x : Int) + 7)) 52 = (((x + 7) % 52 : Nat) : Int) := by
        rw [w64 _ (by omega), Int.tmod_eq_emod_of_nonneg (by omega)]; omega
      rw [e]
      refine ih _ (Nat.mod_lt _ (by omega)) ?_
      have e2 : ((x + 7) % 52 + 7 * d) % 52 = (x + 7 * (d + 1)) % 52 := by omega
      rw [e2]; exact hd
  have l0 : ∀ (d : Nat) (out : List Int) (j i h : Int), 0 ≤ j → (d : Int) = max 0 (n - j) → (out.length : Int) = j → j ≤ max 0 n → Cur b i → EvP (fun k => spec_l5Some.l0 k n out j b i h) (fun r => r.1.length ≤ 40 ∧ Cur b r.2.1) := by
    intro d
    induction d with
    | zero =>
      intro out j i h hj hd ho hj2 hc
      refine EvP.unfold (fun k => rfl) ?_
      simp only [spec_l5Some.l0]
      exact EvP.neg (by omega) (EvP.now ⟨by simp only; omega, hc⟩)
    | succ d ih =>
      intro out j i h hj hd ho hj2 hc
      refine EvP.unfold (fun k => rfl) ?_
      simp only [spec_l5Some.l0]
      refine EvP.pos (by omega) (EvP.bind (spec_l1Below_ok b i h 52 hc (by omega)).ev (fun r hr => ?_))
      have h1 := hr.2.1 (by omega)
      have h0 := hr.1
      obtain ⟨x, hx⟩ : ∃ x : Nat, r.1 = (x : Int) := ⟨r.1.toNat, by omega⟩
      rw [hx]
      have hx2 : x < 52 := by omega
      obtain ⟨q, _, hq⟩ := seven_free out (by omega) x hx2
      refine l1 out j _ _ (by omega) (fun c => ?_) q x hx2 hq
      rw [w64 (j + 1) (by omega)]
      exact ih _ _ _ _ (by omega) (by omega) (by simp; omega) (by omega) hr.2.2.2
  simp only [spec_l5Some.f]
  exact l0 (max 0 n).toNat [] 0 i h (by omega) (by omega) rfl (by omega) hc

theorem spec_l5Any_ev (b : List Int) (i h : Int) (hc : Cur b i) : EvP (fun k => spec_l5Any.f k b i h) (fun r => r.1.length ≤ 40 ∧ Cur b r.2.1) := by
  simp only [spec_l5Any.f]
  refine EvP.bind (spec_l1Below_ok b i h 9 hc (by omega)).ev (fun r hr => ?_)
  have h1 := hr.2.1 (by omega)
  refine EvP.bind (spec_l5Some_ev b _ _ r.1 hr.2.2.2 (by omega)) (fun s hs => EvP.ite (fun hp => ?_) (fun _ => EvP.now hs))
  refine EvP.bind (spec_l1Once_ok b _ _ 10 hs.2 (by omega)).ev (fun t ht => EvP.ite (fun _ => ?_) (fun _ => EvP.now ⟨hs.1, ht⟩))
  have h2 := hs.1
  rw [w64 _ (by omega)]
  refine EvP.pos (by omega) (EvP.pos (by omega) (EvP.bind (spec_l1Int_ok b _ _ [_, 52, -1] ht (by simp) (by simp)).ev (fun u hu => EvP.pos (by omega) (EvP.now ⟨by simp only [List.length_set]; omega, hu.2⟩))))

theorem spec_DrawIsHand_ev (l : List Int) (hl : l.length ≤ 140737488351232) : EvP (fun k => spec_DrawIsHand.f k l) (fun r => r.length ≤ 40) := by
  simp only [spec_DrawIsHand.f]
  refine EvP.bind (spec_l1New_ev l hl) (fun r hr => ?_)
  have hc : Cur r.1 r.2.1 := by rw [hr.1]; exact hr.2
  exact EvP.bind (spec_l5Any_ev r.1 r.2.1 r.2.2 hc) (fun s hs => EvP.now hs.1)

theorem spec_DrawHandText_ev (l : List Int) (hl : l.length ≤ 140737488351232) : EvP (fun k => spec_DrawHandText.f k l) (fun r => r.length ≤ 40) := by
  simp only [spec_DrawHandText.f]
  exact EvP.bind (spec_DrawIsHand_ev l hl) (fun r hr => EvP.now hr)

theorem impl_IsCard_eq (c : Int) : impl_IsCard.f c = some (isCard c) := by
  unfold impl_IsCard.f isCard
  rw [impl_InRange_eq]; rfl

theorem impl_IsHand_ev (l : List Int) (hl : l.length ≤ 1048576000) : Ev (fun k => impl_IsHand.f k l) (isHand l) := by
  simp only [impl_IsHand.f]
  refine ev_done (ev_loopN (fun k (s : List Bool) i => impl_IsHand.l0 k l s i) l.length (fun _ i => handF (l.take i) (l.drop i)) (fun s i => s.length = 52 ∧ ∀ c : Nat, c < 52 → s.getD c false = decide ((c : Int) ∈ l.take i)) ?_ ?_ _ 0 (by omega) ⟨by simp, fun c hc => by rw [List.getD_eq_getElem?_getD, List.getElem?_replicate, if_pos hc]; simp⟩) (by simp [isHand])
  · rintro s _
    refine ev_unfold (fun k => rfl) ?_
    simp only [impl_IsHand.l0]
    refine ev_neg (by omega) (ev_ret ?_)
    rw [drop_end]; rfl
  · rintro s i hi ⟨h52, hs⟩ ih
    refine ev_unfold (fun k => rfl) ?_
    simp only [impl_IsHand.l0]
    rw [w64next i (by omega), rd_at l i hi, drop_at l i hi]
    unfold handF
    refine ev_pos (by omega) (ev_pos (by omega) (ev_eq (impl_IsCard_eq _) (ev_ite (fun h => ?_) (fun h => ev_ret ?_))))
    · have hc := (isCard_iff _).1 h
      have he := hs l[i].toNat (by omega)
      rw [show ((l[i].toNat : Nat) : Int) = l[i] by omega] at he
      refine ev_pos (by omega) (ev_pos (by omega) (ev_ite (fun h2 => ev_ret ?_) (fun h2 => ev_done (ih _ ⟨by simpa using h52, fun c hc2 => ?_⟩) ?_)))
      · rw [h2] at he
        unfold hasCard
        rw [← he]; simp
      · rw [take_at l i hi, List.getD_eq_getElem?_getD, List.getElem?_set]
        have h3 := hs c hc2
        rw [List.getD_eq_getElem?_getD] at h3
        by_cases hci : l[i].toNat = c
        · rw [if_pos hci, if_pos (by omega)]
          have : (c : Int) = l[i] := by omega
          exact (decide_eq_true (List.mem_append.2 (.inr (by rw [this]; exact List.mem_singleton.2 rfl)))).symm
        · rw [if_neg hci, h3]
          have : ¬ (c : Int) = l[i] := by omega
          exact decide_eq_decide.2 ⟨fun h => List.mem_append.2 (.inl h), fun h => (List.mem_append.1 h).resolve_right (fun h => this (List.mem_singleton.1 h))⟩
      · rw [Bool.not_eq_true] at h2
        rw [h2] at he
        unfold hasCard
        rw [h, ← he, take_at l i hi]; simp
    · rw [Bool.not_eq_true] at h
      rw [h]; simp

theorem impl_ParseCard_eq (s : ByteArray) : impl_ParseCard.f s = some (parseC s) := by
  unfold impl_ParseCard.f parseC
  have e1 : (⟨#[50, 51, 52, 53, 54, 55, 56, 57, 84, 74, 81, 75, 65]⟩ : ByteArray) = rankLetters := rfl
  have e2 : (⟨#[99, 100, 104, 115]⟩ : ByteArray) = suitLetters := rfl
  rw [e1, e2]
  by_cases h : s.size = 2
  · rw [if_pos (by omega), if_pos (by omega), strings_IndexByte_eq, Option.bind_some, if_pos (by omega), strings_IndexByte_eq, Option.bind_some, if_pos h]
    have b0 : bt s 0 = ((s[0]'(by omega)).toNat : Int) := bt_nat s 0 (by omega)
    have b1 : bt s 1 = ((s[1]'(by omega)).toNat : Int) := bt_nat s 1 (by omega)
    have hr : -1 ≤ idxOf rankLetters (bt s 0) ∧ idxOf rankLetters (bt s 0) ≤ 12 := by
      rw [b0]
      rcases rank_idx _ (s[0]'(by omega)).toNat_lt with hr | ⟨r, hr, er, _⟩ <;> omega
    have hu : -1 ≤ idxOf suitLetters (bt s 1) ∧ idxOf suitLetters (bt s 1) ≤ 3 := by
      rw [b1]
      rcases suit_idx _ (s[1]'(by omega)).toNat_lt with hu | ⟨u, hu, eu, _⟩ <;> omega
    by_cases h1 : idxOf rankLetters (bt s 0) < 0
    · rw [if_pos h1, if_pos (.inl h1)]
    · rw [if_neg h1]
      by_cases h2 : idxOf suitLetters (bt s 1) < 0
      · rw [if_pos h2, if_pos (.inr h2)]
      · rw [if_neg h2, if_neg (by omega), w64 (idxOf suitLetters (bt s 1) * 13) (by omega), w64 _ (by omega)]
  · rw [if_neg (by omega), if_neg h]

theorem impl_ParseHand_ev (s : ByteArray) (hs : s.size ≤ 1048576) : Ev (fun k => impl_ParseHand.f k s) (parseHand s) := by
  have l0 : s.size % 2 = 0 → Ev (fun k => impl_ParseHand.l0 k s [] 0) (if isHand (cardsOf s (s.size / 2)) = true then (cardsOf s (s.size / 2), true) else ([], false)) := by
    intro he
    have key : ∀ (d n : Nat), n + d = s.size / 2 → Ev (fun k => impl_ParseHand.l0 k s (cardsOf s n) ((2 * n : Nat) : Int)) (if isHand (cardsOf s (s.size / 2)) = true then (cardsOf s (s.size / 2), true) else ([], false)) := by
      intro d
      induction d with
      | zero =>
        intro n hd
        refine ev_unfold (fun k => rfl) ?_
        simp only [impl_ParseHand.l0]
        have hn : n = s.size / 2 := by omega
        subst hn
        refine ev_neg (by omega) (Ev.bind (impl_IsHand_ev _ (by rw [cardsOf_length]; omega)) (ev_ite (fun h => ev_ret ?_) (fun h => ev_ret ?_)))
        · rw [if_pos h]
        · rw [if_neg h]
      | succ d ih =>
        intro n hd
        refine ev_unfold (fun k => rfl) ?_
        simp only [impl_ParseHand.l0]
        have e : wrap64 (((2 * n : Nat) : Int) + 2) = ((2 * (n + 1) : Nat) : Int) := by rw [w64 _ (by omega)]; omega
        rw [e]
        refine ev_pos (by omega) (ev_pos (by omega) (ev_pos (by omega) (ev_pos (by omega) (ev_eq (impl_ParseCard_eq _) (ev_pos (by rw [cardsOf_length]; omega) ?_)))))
        have e2 : cardsOf s n ++ [parseC (s.extract ((2 * n : Nat) : Int).toNat ((2 * (n + 1) : Nat) : Int).toNat)] = cardsOf s (n + 1) := by
          rw [cardsOf_succ, Int.toNat_natCast, Int.toNat_natCast, show 2 * (n + 1) = 2 * n + 2 by omega]
        rw [e2]
        exact ih (n + 1) (by omega)
    exact key (s.size / 2) 0 (by omega)
  have j0 : ∀ b, (b = true → parseHand s = ([], false)) → (b = false → s.size % 2 = 0 ∧ s.size ≠ 0) → Ev (fun k => impl_ParseHand.j0 k s [] b) (parseHand s) := by
    intro b h1 h2
    refine ev_unfold (fun k => rfl) ?_
    simp only [impl_ParseHand.j0]
    refine ev_ite (fun h => ev_ret (h1 h).symm) (fun h => ?_)
    have h3 := h2 (by simpa using h)
    rw [parse_even h3.1 h3.2]
    exact l0 h3.1
  simp only [impl_ParseHand.f, Option.bind_some]
  have el : ∀ l : List UInt8, (⟨l.toArray⟩ : ByteArray).toList = l := fun l => by rw [Go.Lib.toList_data]
  refine ev_ite (fun h => ev_ret ?_) (fun h => ?_)
  · have : s = ⟨#[45]⟩ := bytes_eq.1 (by rw [h]; exact (el [45]).symm)
    rw [this, parse_dash]
  · have hne : s ≠ ⟨#[45]⟩ := fun e => h (by rw [e]; exact el [45])
    refine ev_ite (fun h2 => j0 _ (fun _ => ?_) (fun e => by cases e)) (fun h2 => ?_)
    · have : s = ⟨#[]⟩ := bytes_eq.1 (by rw [h2]; exact (el []).symm)
      rw [this, parse_none]
    · have h0 : s.size ≠ 0 := fun e => h2 (by
        have e1 : s = ⟨#[]⟩ := ByteArray.ext (Array.eq_empty_of_size_eq_zero e)
        rw [e1]; exact el [])
      refine ev_ite (fun h3 => j0 _ (fun e => ?_) (fun e => ⟨by omega, h0⟩)) (fun h3 => j0 _ (fun _ => parse_odd (by omega) hne) (fun e => by cases e))
      have := of_decide_eq_true e
      exact parse_long (by omega)

theorem impl_CardText_eq (c : Int) : impl_CardText.f c = some (cardText c) := by
  unfold impl_CardText.f
  simp only [impl_IsCard_eq, Option.bind_some]
  by_cases h : isCard c = true
  · have hr := card_ranges h
    have h2 := (isCard_iff c).1 h
    have e1 : Int.tmod c 13 = rankOf c := by unfold rankOf; rw [if_pos h, Int.tmod_eq_emod_of_nonneg h2.1]
    have e2 : wrap64 (Int.tdiv c 13) = suitOf c := by unfold suitOf; rw [if_pos h, Int.tdiv_eq_ediv_of_nonneg h2.1, w64 _ (by omega)]
    rw [if_pos h, e1, e2, w64 (rankOf c + 1) (by omega), w64 (suitOf c + 1) (by omega), if_pos (by omega), if_pos (by omega), if_pos (by omega), if_pos (by omega), if_pos (by omega), if_pos (by omega)]
    have hs := cardText_size h
    unfold cardText at hs ⊢
    rw [if_pos h] at hs ⊢
    rw [ByteArray.size_append] at hs
    unfold letter rankLetters suitLetters at hs ⊢
    rw [if_pos (by omega)]
  · unfold cardText
    rw [if_neg h, if_neg h]

theorem impl_listText_ev (l : List Int) (hl : l.length ≤ 1048576000) : Ev (fun k => impl_listText.f k l (-1) (⟨#[63]⟩ : ByteArray)) (handText l) := by
  simp only [impl_listText.f]
  unfold handText
  refine ev_ite (fun h => ev_ret ?_) (fun h => ?_)
  · rw [if_pos (List.eq_nil_of_length_eq_zero (by omega))]
  · rw [if_neg (by rintro rfl; simp at h)]
    refine ev_loop (fun k (s : ByteArray) i => impl_listText.l0 k (-1) ⟨#[63]⟩ s l (l.length : Int) i) l (fun s r => textF s r) (fun s i => s.size ≤ 2 * i) ?_ ?_ ⟨#[]⟩ 0 (by omega) (by decide)
    · rintro s _
      refine ev_unfold (fun k => rfl) ?_
      simp only [impl_listText.l0]
      exact ev_neg (by omega) (ev_ret rfl)
    · rintro s i hi hs ih
      refine ev_unfold (fun k => rfl) ?_
      simp only [impl_listText.l0]
      refine ev_pos (by omega) (ev_pos (by omega) (ev_pos (by omega) (ev_eq (impl_IsCard_eq _) ?_)))
      rw [w64next i (by omega), rd_at l i hi]
      have hq : ∀ q : ByteArray, cardTxt l[i] = q → Ev (fun k => impl_listText.l0 k (-1) ⟨#[63]⟩ (s ++ q) l (l.length : Int) ((i + 1 : Nat) : Int)) (textF s (l[i] :: l.drop (i + 1))) := by
        rintro q rfl
        refine ih _ ?_
        have := cardTxt_size l[i]
        rw [ByteArray.size_append]; omega
      have h63 : (⟨#[63]⟩ : ByteArray).size = 1 := rfl
      refine ev_ite (fun h => ?_) (fun h => ?_)
      · refine ev_eq (impl_CardText_eq _) (ev_pos ?_ (hq _ ?_))
        · rw [cardText_size h]; omega
        · unfold cardTxt; rw [if_pos h]
      · refine ev_ite (fun _ => ev_pos (by omega) (hq _ ?_)) (fun _ => ev_pos (by omega) (hq _ ?_))
        · unfold cardTxt; rw [if_neg h]
        · unfold cardTxt; rw [if_neg h]

theorem impl_HandText_ev (l : List Int) (hl : l.length ≤ 1048576000) : Ev (fun k => impl_HandText.f k l) (handText l) := by
  simp only [impl_HandText.f]
  exact Ev.bind (impl_listText_ev l hl) (Ev.now _)

theorem spec_IsCard_eq (c : Int) : spec_IsCard.f c = some (isCard c) := by
  unfold spec_IsCard.f isCard
  rw [spec_l1In_eq]; rfl

theorem spec_SuitOf_eq (c : Int) : spec_SuitOf.f c = some (suitOf c) := by
  unfold spec_SuitOf.f suitOf
  rw [spec_IsCard_eq]
  simp only [Option.bind_some]
  by_cases h : isCard c = true
  · have h2 := (isCard_iff c).1 h
    rw [if_pos h, if_pos h, Int.tdiv_eq_ediv_of_nonneg h2.1, w64 _ (by omega)]
  · rw [if_neg h, if_neg h]

theorem spec_RankOf_eq (c : Int) : spec_RankOf.f c = some (rankOf c) := by
  unfold spec_RankOf.f rankOf
  rw [spec_IsCard_eq]
  simp only [Option.bind_some]
  by_cases h : isCard c = true
  · rw [if_pos h, if_pos h, Int.tmod_eq_emod_of_nonneg ((isCard_iff c).1 h).1]
  · rw [if_neg h, if_neg h]

theorem spec_CardText_eq (c : Int) : spec_CardText.f c = some (cardText c) := by
  unfold spec_CardText.f
  simp only [spec_IsCard_eq, spec_RankOf_eq, spec_SuitOf_eq, Option.bind_some]
  by_cases h : isCard c = true
  · have hr := card_ranges h
    rw [if_pos h, w64 (rankOf c + 1) (by omega), w64 (suitOf c + 1) (by omega), if_pos (by omega), if_pos (by omega), if_pos (by omega), if_pos (by omega), if_pos (by omega), if_pos (by omega)]
    have hs := cardText_size h
    unfold cardText at hs ⊢
    rw [if_pos h] at hs ⊢
    rw [ByteArray.size_append] at hs
    unfold letter rankLetters suitLetters at hs ⊢
    rw [if_pos (by omega)]
  · unfold cardText
    rw [if_neg h, if_neg h]

theorem spec_HandText_ev (l : List Int) (hl : l.length ≤ 1048576000) : Ev (fun k => spec_HandText.f k l) (handText l) := by
  simp only [spec_HandText.f]
  refine ev_done (ev_loop (fun k (s : ByteArray) i => spec_HandText.l0 k l s i) l (fun s r => if l = [] then ⟨#[45]⟩ else textF s r) (fun s i => s.size ≤ 2 * i) ?_ ?_ ⟨#[]⟩ 0 (by omega) (by decide)) ?_
  · rintro s _
    refine ev_unfold (fun k => rfl) ?_
    simp only [spec_HandText.l0]
    refine ev_neg (by omega) ?_
    refine ev_ite (fun h => ev_ret ?_) (fun h => ev_ret ?_)
    · rw [if_pos (List.eq_nil_of_length_eq_zero (by omega))]
    · rw [if_neg (by rintro rfl; simp at h)]; rfl
  · rintro s i hi hs ih
    refine ev_unfold (fun k => rfl) ?_
    simp only [spec_HandText.l0]
    refine ev_pos (by omega) (ev_pos (by omega) (ev_eq (spec_IsCard_eq _) ?_))
    rw [w64next i (by omega), rd_at l i hi]
    have hq : ∀ q : ByteArray, cardTxt l[i] = q → Ev (fun k => spec_HandText.l0 k l (s ++ q) ((i + 1 : Nat) : Int)) (if l = [] then ⟨#[45]⟩ else textF s (l[i] :: l.drop (i + 1))) := by
      rintro q rfl
      refine ih _ ?_
      have := cardTxt_size l[i]
      rw [ByteArray.size_append]; omega
    refine ev_ite (fun h => ?_) (fun h => ?_)
    · refine ev_eq (spec_CardText_eq _) (ev_pos ?_ (hq _ ?_))
      · rw [cardText_size h]; omega
      · unfold cardTxt; rw [if_pos h]
    · refine ev_pos (by omega) (hq _ ?_)
      unfold cardTxt; rw [if_neg h]
  · simp [handText]

theorem spec_DrawParseHand_ev (l : List Int) (hl : l.length ≤ 140737488351232) : EvP (fun k => spec_DrawParseHand.f k l) (fun r => r.size ≤ 100) := by
  simp only [spec_DrawParseHand.f]
  refine EvP.bind (spec_l1New_ev l hl) (fun r hr => ?_)
  have hc : Cur r.1 r.2.1 := by rw [hr.1]; exact hr.2
  refine EvP.bind (spec_l5Any_ev r.1 r.2.1 r.2.2 hc) (fun s hs => ?_)
  have h40 := hs.1
  have h81 := handText_size s.1
  refine EvP.bind (EvP.of (P := fun x => x = handText s.1) (spec_HandText_ev s.1 (by omega)) rfl) (fun t ht => ?_)
  subst ht
  refine EvP.bind (spec_l1Str_ok r.1 _ _ _ hs.2 (by simp) (by simp)).ev (fun u hu => EvP.now ?_)
  have hm := hu.1
  simp only [List.mem_cons, List.not_mem_nil, or_false] at hm
  rcases hm with h | h | h | h | h | h | h | h | h | h <;> rw [h]
  · omega
  · omega
  · omega
  all_goals decide

theorem spec_DrawSuitsText_ev (l : List Int) (hl : l.length ≤ 140737488351232) : EvP (fun k => spec_DrawSuitsText.f k l) (fun r => r.length ≤ 40) := by
  simp only [spec_DrawSuitsText.f]
  exact EvP.bind (spec_DrawIsHand_ev l hl) (fun r hr => EvP.now hr)

theorem impl_PlaceOf_ev (l : List Int) (c : Int) (hl : l.length ≤ 1048576000) : Ev (fun k => impl_PlaceOf.f k l c) (placeOf l c) := by
  simp only [impl_PlaceOf.f]
  refine ev_loopN (fun k (_ : Unit) i => impl_PlaceOf.l0 k c l (l.length : Int) i) l.length (fun _ i => placeF c i (l.drop i)) (fun _ _ => True) ?_ ?_ () 0 (by omega) trivial
  · rintro s _
    refine ev_unfold (fun k => rfl) ?_
    simp only [impl_PlaceOf.l0]
    refine ev_neg (by omega) (ev_ret ?_)
    rw [drop_end]; rfl
  · rintro s i hi _ ih
    refine ev_unfold (fun k => rfl) ?_
    simp only [impl_PlaceOf.l0]
    refine ev_pos (by omega) (ev_pos (by omega) (ev_pos (by omega) ?_))
    rw [w64next i (by omega), rd_at l i hi, drop_at l i hi]
    unfold placeF
    refine ev_ite (fun h => ev_ret ?_) (fun h => ev_done (ih () trivial) ?_)
    · rw [if_pos h]
    · rw [if_neg h]; congr 1

theorem impl_HasCard_ev (l : List Int) (c : Int) (hl : l.length ≤ 1048576000) : Ev (fun k => impl_HasCard.f k l c) (hasCard l c) := by
  simp only [impl_HasCard.f]
  refine Ev.bind (impl_PlaceOf_ev l c hl) (ev_ret ?_)
  unfold hasCard
  exact decide_eq_decide.2 (placeOf_nonneg l c)

def sp1 : ByteArray := ⟨#[32]⟩
def col1 : ByteArray := ⟨#[58]⟩
/-- The ranks of a suit that a hand holds, from place j - 1 down. -/
def rowF (l : List Int) (k : Nat) (s : ByteArray) : Nat → ByteArray
  | 0 => s
  | j + 1 => rowF l k (if hasCard l ((k : Int) * 13 + (j : Int)) = true then s ++ letter rankLetters (j : Int) else s) j
def suitRow (l : List Int) (k : Nat) : ByteArray := rowF l k (letter suitLetters (k : Int) ++ col1) 13
theorem rowF_app (l : List Int) (k : Nat) (p : ByteArray) : ∀ (j : Nat) (s : ByteArray), rowF l k (p ++ s) j = p ++ rowF l k s j := by
  intro j
  induction j with
  | zero => intro s; rfl
  | succ j ih =>
    intro s
    unfold rowF
    split
    · rw [ByteArray.append_assoc]; exact ih _
    · exact ih _
theorem rowF_size (l : List Int) (k : Nat) : ∀ (j : Nat) (s : ByteArray), j ≤ 13 → (rowF l k s j).size ≤ s.size + j := by
  intro j
  induction j with
  | zero => intro s _; exact Nat.le_refl _
  | succ j ih =>
    intro s hj
    unfold rowF
    have h1 := letter_size rankLetters (j : Int) (by omega) (by rw [rankLetters_size]; omega)
    split
    · have := ih (s ++ letter rankLetters (j : Int)) (by omega)
      rw [ByteArray.size_append, h1] at this
      omega
    · have := ih s (by omega)
      omega
theorem suitRow_size (l : List Int) (k : Nat) (hk : k < 4) : (suitRow l k).size ≤ 15 := by
  have := rowF_size l k 13 (letter suitLetters (k : Int) ++ col1) (Nat.le_refl _)
  rw [ByteArray.size_append, letter_size suitLetters (k : Int) (by omega) (by rw [suitLetters_size]; omega)] at this
  have : col1.size = 1 := rfl
  unfold suitRow
  omega
theorem impl_inner (l : List Int) (hl : l.length ≤ 1048576000) (k : Nat) (hk : k < 4) (xs : List ByteArray) (hx : xs.length ≤ 10) {R : ByteArray} : ∀ (j : Nat) (s : ByteArray), j ≤ 13 → s.size + j ≤ 2000 →
    Ev (fun n => impl_SuitsText.l0 n l (xs ++ [rowF l k s j]) ((k : Int) - 1)) R → Ev (fun n => impl_SuitsText.l1 n l xs (k : Int) s ((j : Int) - 1)) R := by
  intro j
  induction j with
  | zero =>
    intro s _ hs h
    refine ev_unfold (fun k => rfl) ?_
    simp only [impl_SuitsText.l1]
    rw [w64 ((k : Int) - 1) (by omega)]
    exact ev_neg (by omega) (ev_pos (by omega) h)
  | succ j ih =>
    intro s hj hs h
    have e : ((j + 1 : Nat) : Int) - 1 = (j : Int) := by omega
    rw [e]
    refine ev_unfold (fun k => rfl) ?_
    simp only [impl_SuitsText.l1]
    have h1 := letter_size rankLetters (j : Int) (by omega) (by rw [rankLetters_size]; omega)
    have e1 : (⟨#[50, 51, 52, 53, 54, 55, 56, 57, 84, 74, 81, 75, 65]⟩ : ByteArray) = rankLetters := rfl
    have el : rankLetters.extract ((j : Int)).toNat ((j : Int) + 1).toNat = letter rankLetters (j : Int) := rfl
    rw [e1, w64 ((k : Int) * 13) (by omega), w64 ((k : Int) * 13 + (j : Int)) (by omega), w64 ((j : Int) - 1) (by omega), w64 ((j : Int) + 1) (by omega), el]
    refine ev_pos (by omega) (Ev.bind (impl_HasCard_ev l _ hl) (ev_ite (fun h2 => ?_) (fun h2 => ?_)))
    · refine ev_pos (by omega) (ev_pos (by omega) (ev_pos (by omega) (ev_pos (by rw [h1]; omega) (ih _ (by omega) (by rw [ByteArray.size_append, h1]; omega) ?_))))
      unfold rowF at h
      rw [if_pos h2] at h
      exact h
    · refine ih _ (by omega) (by omega) ?_
      unfold rowF at h
      rw [if_neg h2] at h
      exact h
theorem impl_round (l : List Int) (hl : l.length ≤ 1048576000) (k : Nat) (hk : k < 4) {R : ByteArray} (xs : List ByteArray) (hx : xs.length ≤ 10)
    (h : Ev (fun n => impl_SuitsText.l0 n l (xs ++ [suitRow l k]) ((k : Int) - 1)) R) : Ev (fun n => impl_SuitsText.l0 n l xs (k : Int)) R := by
  have e1 : (⟨#[99, 100, 104, 115]⟩ : ByteArray) = suitLetters := rfl
  have hz := letter_size suitLetters (k : Int) (by omega) (by rw [suitLetters_size]; omega)
  have el : suitLetters.extract ((k : Int)).toNat ((k : Int) + 1).toNat = letter suitLetters (k : Int) := rfl
  refine ev_unfold (fun k => rfl) ?_
  simp only [impl_SuitsText.l0]
  rw [e1, w64 ((k : Int) + 1) (by omega), el]
  refine ev_pos (by omega) (ev_pos (by omega) (ev_pos (by omega) (ev_pos (by omega) (ev_pos (by rw [hz]; omega) ?_))))
  have hc : (⟨#[58]⟩ : ByteArray) = col1 := rfl
  have hcs : col1.size = 1 := rfl
  rw [hc]
  exact impl_inner l hl k hk xs hx (R := R) 13 (letter suitLetters (k : Int) ++ col1) (Nat.le_refl _) (by rw [ByteArray.size_append, hz, hcs]; omega) h
def suitsText (l : List Int) : ByteArray := if isHand l = true then ((((⟨#[]⟩ ++ suitRow l 3) ++ sp1) ++ suitRow l 2) ++ sp1 ++ suitRow l 1) ++ sp1 ++ suitRow l 0 else ⟨#[]⟩
theorem impl_SuitsText_ev (l : List Int) (hl : l.length ≤ 1048576000) : Ev (fun k => impl_SuitsText.f k l) (suitsText l) := by
  simp only [impl_SuitsText.f]
  refine Ev.bind (impl_IsHand_ev l hl) ?_
  unfold suitsText
  refine ev_ite (fun h => ?_) (fun h => ?_)
  · rw [if_pos h]
    have z3 := suitRow_size l 3 (by omega)
    have z2 := suitRow_size l 2 (by omega)
    have z1 := suitRow_size l 1 (by omega)
    have z0 := suitRow_size l 0 (by omega)
    refine impl_round l hl 3 (by omega) _ (by simp) (impl_round l hl 2 (by omega) _ (by simp) (impl_round l hl 1 (by omega) _ (by simp) (impl_round l hl 0 (by omega) _ (by simp) ?_)))
    refine ev_unfold (fun k => rfl) ?_
    simp only [impl_SuitsText.l0]
    refine ev_neg (by omega) ?_
    have hj : ∀ a b c d : ByteArray, (⟨(Go.Lib.join ([a, b, c, d].map (fun z => z.data.toList)) (⟨#[32]⟩ : ByteArray).data.toList).toArray⟩ : ByteArray) = ((((⟨#[]⟩ ++ a) ++ sp1) ++ b) ++ sp1 ++ c) ++ sp1 ++ d := by
      intro a b c d
      apply ByteArray.ext
      apply Array.ext'
      simp [Go.Lib.join, List.intercalate, ByteArray.data_append, sp1]
    have hlen : ∀ a b c d : ByteArray, a.size ≤ 15 → b.size ≤ 15 → c.size ≤ 15 → d.size ≤ 15 → (Go.Lib.join ([a, b, c, d].map (fun z => z.data.toList)) (⟨#[32]⟩ : ByteArray).data.toList).length ≤ 140737488355328 := by
      intro a b c d ha hb hc hd
      have e : ((⟨(Go.Lib.join ([a, b, c, d].map (fun z => z.data.toList)) (⟨#[32]⟩ : ByteArray).data.toList).toArray⟩ : ByteArray)).size = (Go.Lib.join ([a, b, c, d].map (fun z => z.data.toList)) (⟨#[32]⟩ : ByteArray).data.toList).length := List.size_toArray
      rw [← e, hj]
      have zs : sp1.size = 1 := rfl
      have ze : (⟨#[]⟩ : ByteArray).size = 0 := rfl
      simp only [ByteArray.size_append, zs, ze]
      omega
    have hJ : strings_Join.f [suitRow l 3, suitRow l 2, suitRow l 1, suitRow l 0] ⟨#[32]⟩ = some (((((⟨#[]⟩ ++ suitRow l 3) ++ sp1) ++ suitRow l 2) ++ sp1 ++ suitRow l 1) ++ sp1 ++ suitRow l 0) := by
      have g := hlen _ _ _ _ z3 z2 z1 z0
      have g2 := hj (suitRow l 3) (suitRow l 2) (suitRow l 1) (suitRow l 0)
      generalize suitRow l 3 = a at g g2 ⊢
      generalize suitRow l 2 = b at g g2 ⊢
      generalize suitRow l 1 = c at g g2 ⊢
      generalize suitRow l 0 = d at g g2 ⊢
      unfold strings_Join.f
      have g3 : [a, b, c, d].length ≤ 140737488355328 := by
        have : [a, b, c, d].length = 4 := rfl
        omega
      rw [if_pos g, if_pos g3, g2]
    simp only [List.nil_append, List.cons_append]
    rw [hJ]
    exact Ev.now _
  · rw [if_neg h]; exact Ev.now _
theorem suitsText_none (u : List Int) : (isHand u == ((suitsText u).toList != ([] : List UInt8))) = true := by
  unfold suitsText
  by_cases h : isHand u = true
  · rw [if_pos h, h]
    have hne : ∀ x : ByteArray, x.size ≠ 0 → (x.toList != ([] : List UInt8)) = true := by
      intro x hx
      rw [bne_iff_ne]
      intro e
      rw [Go.Lib.toList_data] at e
      apply hx
      have : x.data.size = 0 := by rw [← Array.length_toList, e]; rfl
      exact this
    rw [hne _ (by have zs : sp1.size = 1 := rfl; simp only [ByteArray.size_append, zs]; omega)]
    rfl
  · rw [if_neg h]
    rw [Bool.not_eq_true] at h
    rw [h, Go.Lib.toList_data]
    rfl
theorem FnNotations : laws_FnNotations.Pure := by
  intro b hb0 hb1 _
  have hb : b.length ≤ 140737488351232 := by omega
  refine Ev.rounds ?_
  simp only [laws_FnNotations.f, laws_big_eq, Option.bind_some]
  refine ev_ite (fun _ => Ev.now _) (fun _ => ?_)
  have last : ∀ u : List Int, u.length ≤ 40 → Ev (fun k => (impl_IsHand.f k u).bind fun t448 => ((impl_SuitsText.f k u).bind fun t449 => (some (t448 == (t449.toList != ([] : List UInt8)))))) true := fun u hu =>
    Ev.bind (impl_IsHand_ev u (by omega)) (Ev.bind (impl_SuitsText_ev u (by omega)) (ev_ret (suitsText_none u)))
  have fin : ∀ (t : ByteArray) (u : List Int), u.length ≤ 40 → Ev (fun k => if (parseHand t).2 = true then ((impl_HandText.f k (parseHand t).1).bind fun t447 => (if t447.toList = t.toList then ((impl_IsHand.f k u).bind fun t448 => ((impl_SuitsText.f k u).bind fun t449 => (some (t448 == (t449.toList != ([] : List UInt8)))))) else (some false))) else ((impl_IsHand.f k u).bind fun t450 => ((impl_SuitsText.f k u).bind fun t451 => (some (t450 == (t451.toList != ([] : List UInt8))))))) true := by
    intro t u hu
    have hl := parseHand_length t
    refine ev_ite (fun h => ?_) (fun _ => last u hu)
    refine Ev.bind (impl_HandText_ev _ (by omega)) (ev_pos ?_ (last u hu))
    rw [parseHand_text h]
  have mid : ∀ (h : List Int) (t : ByteArray) (u : List Int), h.length ≤ 40 → u.length ≤ 40 → Ev (fun k => (impl_IsHand.f k h).bind fun t445 => (if ((parseHand (handText h)).2 == t445) = true then (if (parseHand (handText h)).2 = true then ((laws_sameInts.f k (parseHand (handText h)).1 h).bind fun t446 => (if t446 = true then (if (parseHand t).2 = true then ((impl_HandText.f k (parseHand t).1).bind fun t447 => (if t447.toList = t.toList then ((impl_IsHand.f k u).bind fun t448 => ((impl_SuitsText.f k u).bind fun t449 => (some (t448 == (t449.toList != ([] : List UInt8)))))) else (some false))) else ((impl_IsHand.f k u).bind fun t450 => ((impl_SuitsText.f k u).bind fun t451 => (some (t450 == (t451.toList != ([] : List UInt8))))))) else (some false))) else (if (parseHand t).2 = true then ((impl_HandText.f k (parseHand t).1).bind fun t452 => (if t452.toList = t.toList then ((impl_IsHand.f k u).bind fun t453 => ((impl_SuitsText.f k u).bind fun t454 => (some (t453 == (t454.toList != ([] : List UInt8)))))) else (some false))) else ((impl_IsHand.f k u).bind fun t455 => ((impl_SuitsText.f k u).bind fun t456 => (some (t455 == (t456.toList != ([] : List UInt8)))))))) else (some false))) true := by
    intro h t u hh hu
    have hl := parseHand_length (handText h)
    refine Ev.bind (impl_IsHand_ev h (by omega)) ?_
    rw [parse_hand h] at hl ⊢
    by_cases hd : isHand h = true
    · rw [if_pos hd, hd]
      refine ev_pos rfl (ev_pos rfl (Ev.bind (laws_sameInts_ev h h (by omega)) (ev_pos (decide_eq_true rfl) (fin t u hu))))
    · rw [if_neg hd]
      rw [Bool.not_eq_true] at hd
      rw [hd]
      exact ev_pos rfl (ev_neg (by simp) (fin t u hu))
  have j0 : Ev (fun k => laws_FnNotations.j0 k b false) true := by
    refine ev_unfold (fun k => rfl) ?_
    simp only [laws_FnNotations.j0]
    refine ev_neg (by simp) (EvP.use (spec_DrawParsePattern_ev b hb) (fun s hs => Ev.bind (impl_ParsePattern_ev s (by omega)) (EvP.use (spec_DrawHandText_ev b hb) (fun h hh => ?_))))
    have h81 := handText_size h
    refine Ev.bind (impl_HandText_ev h (by omega)) (Ev.bind (impl_ParseHand_ev (handText h) (by omega)) (EvP.use (spec_DrawParseHand_ev b hb) (fun t ht => Ev.bind (impl_ParseHand_ev t (by omega)) (EvP.use (spec_DrawSuitsText_ev b hb) (fun u hu => ?_)))))
    have hp := parsePat_length s
    refine ev_ite (fun hf => Ev.bind (impl_PatternText_ev _ (by omega)) (ev_pos (by rw [parsePat_text hf]) (mid h t u hh hu))) (fun _ => mid h t u hh hu)
  refine EvP.use (spec_DrawPatternText_ev b hb) (fun p hp => ?_)
  have h60 := patText_size p
  refine Ev.bind (impl_PatternText_ev p (by omega)) (Ev.bind (impl_ParsePattern_ev (patText p) (by omega)) (Ev.bind (impl_IsPattern_ev p (by omega)) (Ev.bind (spec_IsPattern_ev p (by omega)) (ev_neg (by simp) (Ev.bind (impl_IsPattern_ev p (by omega)) ?_)))))
  rw [parse_text p]
  by_cases hq : isPattern p = true
  · rw [if_pos hq, hq]
    refine ev_neg (by simp) (ev_pos rfl (Ev.bind (laws_sameInts_ev p p (by omega)) ?_))
    rw [decide_eq_true rfl]
    exact j0
  · rw [if_neg hq]
    rw [Bool.not_eq_true] at hq
    rw [hq]
    exact ev_neg (by simp) (ev_neg (by simp) j0)

end Go.Proofs.Ytecjbogconeilaa.Pure
