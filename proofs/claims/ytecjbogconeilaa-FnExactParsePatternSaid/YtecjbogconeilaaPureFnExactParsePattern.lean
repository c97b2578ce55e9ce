/- In the given program FnExactParsePattern answers true for every input, by what its functions compute; no condition. -/
import Derived.Test.YtecjbogconeilaaQFnExactParsePatternx8
import Derived.Test.YtecjbogconeilaaLib
import Derived.Test.YtecjbogconeilaaCards
import Derived.Test.YtecjbogconeilaaCards2
import Derived.Test.YtecjbogconeilaaCalls
import Derived.Test.YtecjbogconeilaaHands
import Derived.Test.YtecjbogconeilaaPats
import Derived.Test.YtecjbogconeilaaSort
import Derived.Test.YtecjbogconeilaaDraw
import Derived.Test.YtecjbogconeilaaParse
import Derived.Test.YtecjbogconeilaaPatText
import Derived.Test.YtecjbogconeilaaRead
namespace Go.Proofs.Ytecjbogconeilaa.Pure
open Go.RowKit Go.Proofs.Ytecjbogconeilaa.QFnExactParsePattern Go.Proofs.YtecjbogconeilaaW.PrintWords Go.Proofs.YtecjbogconeilaaW.PrintLast Go.Proofs.YtecjbogconeilaaW.PrintMore Go.Proofs.Ytecjbogconeilaa.Lib
set_option linter.unusedVariables false
set_option linter.unusedSimpArgs false

theorem impl_InRange_eq (n a b : Int) : impl_InRange.f n a b = some (inR n a b) := by
  unfold impl_InRange.f inR
  by_cases h : a ≤ n
  · rw [if_pos (by omega)]; simp [h]
  · rw [if_neg (by omega)]; simp [h]

theorem impl_isTest_eq (s : Int) : impl_isTest.f s = some (isLeaf s) := by
  unfold impl_isTest.f isLeaf
  simp only [impl_InRange_eq, Option.bind_some]
  repeat' split
  all_goals simp_all

theorem impl_IsPattern_ev (l : List Int) (hl : l.length ≤ 1048576000) : Ev (fun k => impl_IsPattern.f k l) (isPattern l) := by
  simp only [impl_IsPattern.f]
  refine ev_loop (fun k (s : Int) i => impl_IsPattern.l0 k l s l (l.length : Int) i) l (fun s r => decide (patF s r = some 1) && decide (l.length ≤ 20)) (fun s i => 0 ≤ s ∧ s ≤ i) ?_ ?_ 0 0 (by omega) ⟨by omega, by omega⟩
  · rintro s ⟨h1, h2⟩
    refine ev_unfold (fun k => rfl) ?_
    simp only [impl_IsPattern.l0, impl_InRange_eq, Option.bind_some]
    refine ev_neg (by omega) ?_
    refine ev_ite (fun h => ev_ret ?_) (fun h => ev_ret ?_)
    · rw [inR_iff] at h
      simp [patF]
      by_cases h5 : s = 1
      · simp [h5]; omega
      · simp [h5]
    · rw [inR_iff] at h
      simp [patF]; omega
  · rintro s i hi ⟨h1, h2⟩ ih
    have j1 : ∀ b, (b = true → Ev (fun k => impl_IsPattern.l0 k l s l (l.length : Int) ((i + 1 : Nat) : Int)) (decide (patF s (l.drop (i + 1)) = some 1) && decide (l.length ≤ 20))) → Ev (fun k => impl_IsPattern.j1 k l s l[i] l (l.length : Int) i b) (if b = true then (decide (patF s (l.drop (i + 1)) = some 1) && decide (l.length ≤ 20)) else if l[i] = -2 ∨ l[i] = -3 then (if s ≥ 2 then (decide (patF (s - 1) (l.drop (i + 1)) = some 1) && decide (l.length ≤ 20)) else false) else false) := by
      intro b hb
      refine ev_unfold (fun k => rfl) ?_
      simp only [impl_IsPattern.j1]
      rw [w64next i (by omega), w64 (s - 1) (by omega)]
      refine ev_ite (fun h => ?_) (fun h => ?_)
      · rw [if_pos h]; exact hb h
      · rw [if_neg h]
        refine ev_ite (fun h2 => ?_) (fun h2 => ?_)
        · rw [if_pos (.inl h2)]
          refine ev_ite (fun h3 => ?_) (fun h3 => ?_)
          · rw [if_pos h3]; exact ih _ ⟨by omega, by omega⟩
          · rw [if_neg h3]; exact Ev.now _
        · refine ev_ite (fun h4 => ?_) (fun h4 => ?_)
          · rw [if_pos (.inr h4)]
            refine ev_ite (fun h3 => ?_) (fun h3 => ?_)
            · rw [if_pos h3]; exact ih _ ⟨by omega, by omega⟩
            · rw [if_neg h3]; exact Ev.now _
          · rw [if_neg (by omega)]; exact Ev.now _
    refine ev_unfold (fun k => rfl) ?_
    simp only [impl_IsPattern.l0]
    refine ev_pos (by omega) (ev_pos (by omega) (ev_pos (by omega) (ev_eq (impl_isTest_eq _) ?_)))
    rw [w64next i (by omega), rd_at l i hi, w64 (s + 1) (by omega)]
    unfold patF
    refine ev_ite (fun h => ?_) (fun h => ?_)
    · rw [if_pos h]; exact ih _ ⟨by omega, by omega⟩
    · rw [if_neg h]
      refine ev_ite (fun h2 => ?_) (fun h2 => ?_)
      · rw [if_pos h2]
        refine ev_done (j1 _ (fun _ => ih _ ⟨by omega, by omega⟩)) ?_
        by_cases h3 : s ≥ 1
        · simp [h3]
        · simp [h3]; omega
      · rw [if_neg h2]
        refine ev_done (j1 _ (fun h => by cases h)) ?_
        simp only [Bool.false_eq_true, if_false]
        by_cases h3 : l[i] = -2 ∨ l[i] = -3
        · rw [if_pos h3, if_pos h3]
          by_cases h4 : s ≥ 2
          · rw [if_pos h4, if_pos h4]
          · rw [if_neg h4, if_neg h4]; simp
        · rw [if_neg h3, if_neg h3]; simp

theorem impl_signText_eq (s : Int) (h : isLeaf s = true) : impl_signText.f s = some (signText s) := by
  have hc := leaf_cases h
  have e43 : (⟨#[43]⟩ : ByteArray).size = 1 := rfl
  have e1 : (⟨#[50, 51, 52, 53, 54, 55, 56, 57, 84, 74, 81, 75, 65]⟩ : ByteArray) = rankLetters := rfl
  have e2 : (⟨#[99, 100, 104, 115]⟩ : ByteArray) = suitLetters := rfl
  have hr := rankLetters_size
  have hs := suitLetters_size
  unfold impl_signText.f signText
  rw [e2]
  by_cases h4 : s = 400
  · rw [if_pos h4, if_pos h4]
  · rw [if_neg h4, if_neg h4]
    by_cases h3 : s ≥ 300
    · rw [if_pos h3, if_pos h3, w64 (s - 300) (by omega)]
      rw [e1, w64 (s - 300 + 1) (by omega), if_pos (by omega), if_pos (by omega), if_pos (by omega)]
      have hz := letter_size rankLetters (s - 300) (by omega) (by omega)
      unfold letter at hz ⊢
      rw [if_pos (by omega)]
    · rw [if_neg h3, if_neg h3]
      by_cases h2 : s ≥ 200
      · rw [if_pos h2, if_pos h2, w64 (s - 200) (by omega)]
        rw [e1, w64 (s - 200 + 1) (by omega), if_pos (by omega), if_pos (by omega), if_pos (by omega)]
        rfl
      · rw [if_neg h2, if_neg h2, w64 (s - 100) (by omega), w64 (s - 100 + 1) (by omega), if_pos (by omega), if_pos (by omega), if_pos (by omega)]
        rfl

theorem impl_PatternText_ev (p : List Int) (hl : p.length ≤ 1048576000) : Ev (fun k => impl_PatternText.f k p) (patText p) := by
  have e33 : (⟨#[33]⟩ : ByteArray).size = 1 := rfl
  have e40 : (⟨#[40]⟩ : ByteArray).size = 1 := rfl
  have e38 : (⟨#[38]⟩ : ByteArray).size = 1 := rfl
  have e41 : (⟨#[41]⟩ : ByteArray).size = 1 := rfl
  have e124 : (⟨#[124]⟩ : ByteArray).size = 1 := rfl
  have l0 : isPattern p = true → Ev (fun k => impl_PatternText.l0 k ([] : List ByteArray) p (p.length : Int) 0) ((pileT [] p).getD 0 ByteArray.empty) := by
    intro hp
    have h20 := isPattern_pos hp
    have hpat : patF 0 p = some 1 := by simp [isPattern] at hp; exact hp.1
    refine ev_done (ev_loop (fun k (s : List ByteArray) i => impl_PatternText.l0 k s p (p.length : Int) i) p (fun s r => (pileT s r).getD 0 ByteArray.empty) (fun s i => patF (s.length : Int) (p.drop i) = some 1 ∧ s.length ≤ i ∧ i ≤ 20 ∧ ∀ x ∈ s, x.size + 3 ≤ 3 * 2 ^ i) ?_ ?_ [] 0 (by omega) ⟨by simpa using hpat, by simp, by omega, by simp⟩) rfl
    · rintro s ⟨h1, h2, _, _⟩
      rw [drop_end] at h1
      have h3 : (s.length : Int) = 1 := by simpa [patF] using h1
      refine ev_unfold (fun k => rfl) ?_
      simp only [impl_PatternText.l0]
      exact ev_neg (by omega) (ev_pos (by omega) (ev_ret rfl))
    · rintro s i hi ⟨h1, h2, hi2, hsz⟩ ih
      rw [drop_at p i hi] at h1
      obtain ⟨g1, g2, g3, g4, g5, g6⟩ := stepX_length h1
      have hpow : 2 ^ i ≤ 2 ^ 20 := Nat.pow_le_pow_right (by omega) hi2
      have hpos : 1 ≤ 2 ^ i := Nat.one_le_two_pow
      have k1 := topT_size hsz (by omega) 1
      have k2 := topT_size hsz (by omega) 2
      have ih := ih (stepX s p[i]) ⟨g1, by omega, by omega, fun x hx => by have := stepX_size hsz (by omega) g6 x hx; rw [Nat.pow_succ]; omega⟩
      have e : pileT s (p[i] :: p.drop (i + 1)) = pileT (stepX s p[i]) (p.drop (i + 1)) := rfl
      rw [e]
      refine ev_unfold (fun k => rfl) ?_
      simp only [impl_PatternText.l0, Option.bind_some]
      rw [w64next i (by omega), rd_at p i hi]
      refine ev_pos (by omega) (ev_pos (by omega) (ev_pos (by omega) (ev_ite (fun h => ?_) (fun h => ?_))))
      · have hs := g2 h
        have ew : wrap64 ((s.length : Int) - 1) = ((s.length - 1 : Nat) : Int) := by rw [w64 _ (by omega)]; omega
        have er : rdOf ByteArray.empty s ((s.length - 1 : Nat) : Int) = topT s 1 := by unfold rdOf topT; rw [Int.toNat_natCast]
        rw [ew, er, Int.toNat_natCast]
        refine ev_pos (by omega) (ev_pos (by omega) (ev_pos (by omega) ?_))
        have e2 : s.set (s.length - 1) ((⟨#[33]⟩ : ByteArray) ++ topT s 1) = stepX s p[i] := by unfold stepX; rw [if_pos h]
        rw [e2]; exact ih
      · have two : ∀ (hs : 2 ≤ s.length), wrap64 ((s.length : Int) - 2) = ((s.length - 2 : Nat) : Int) ∧ wrap64 ((s.length : Int) - 1) = ((s.length - 1 : Nat) : Int) ∧ rdOf ByteArray.empty s ((s.length - 2 : Nat) : Int) = topT s 2 ∧ rdOf ByteArray.empty s ((s.length - 1 : Nat) : Int) = topT s 1 := by
          intro hs
          refine ⟨by rw [w64 _ (by omega)]; omega, by rw [w64 _ (by omega)]; omega, ?_, ?_⟩
          · unfold rdOf topT; rw [Int.toNat_natCast]
          · unfold rdOf topT; rw [Int.toNat_natCast]
        refine ev_ite (fun h2 => ?_) (fun h2 => ?_)
        · have hs := g3 h2
          obtain ⟨w2, w1, r2, r1⟩ := two hs
          rw [w2, w1, r2, r1, Int.toNat_natCast]
          simp only [ByteArray.size_append]
          refine ev_pos (by omega) (ev_pos (by omega) (ev_pos (by omega) (ev_pos (by omega) (ev_pos (by omega) (ev_pos (by omega) (ev_pos (by omega) (ev_pos (by omega) (ev_pos (by omega) (ev_pos (by rw [List.length_take]; omega) ?_)))))))))
          have e2 : s.take (s.length - 2) ++ [⟨#[40]⟩ ++ topT s 2 ++ ⟨#[38]⟩ ++ topT s 1 ++ ⟨#[41]⟩] = stepX s p[i] := by unfold stepX; rw [if_neg h, if_pos h2]
          rw [e2]; exact ih
        · refine ev_ite (fun h3 => ?_) (fun h3 => ?_)
          · have hs := g4 h3
            obtain ⟨w2, w1, r2, r1⟩ := two hs
            rw [w2, w1, r2, r1, Int.toNat_natCast]
            simp only [ByteArray.size_append]
            refine ev_pos (by omega) (ev_pos (by omega) (ev_pos (by omega) (ev_pos (by omega) (ev_pos (by omega) (ev_pos (by omega) (ev_pos (by omega) (ev_pos (by omega) (ev_pos (by omega) (ev_pos (by rw [List.length_take]; omega) ?_)))))))))
            have e2 : s.take (s.length - 2) ++ [⟨#[40]⟩ ++ topT s 2 ++ ⟨#[124]⟩ ++ topT s 1 ++ ⟨#[41]⟩] = stepX s p[i] := by unfold stepX; rw [if_neg h, if_neg h2, if_pos h3]
            rw [e2]; exact ih
          · have hL := g6 h h2 h3
            refine ev_eq (impl_signText_eq _ hL) (ev_pos (by omega) ?_)
            have e2 : s ++ [signText p[i]] = stepX s p[i] := by unfold stepX; rw [if_neg h, if_neg h2, if_neg h3]
            rw [e2]; exact ih
  simp only [impl_PatternText.f]
  unfold patText
  refine Ev.bind (impl_IsPattern_ev p hl) (ev_ite (fun h => ?_) (fun h => ev_ret ?_))
  · rw [if_pos h]; exact l0 h
  · rw [if_neg h]

theorem strings_IndexByte_eq (s : ByteArray) (c : Int) : strings_IndexByte.f s c = some (idxOf s c) := rfl

theorem impl_next_in (s : ByteArray) (i : Nat) (h : i < s.size) : impl_notation_read.next s (i : Int) = some (bt s (i : Int)) := by
  unfold impl_notation_read.next
  rw [if_pos (by omega), if_pos (by omega)]
theorem impl_next_out (s : ByteArray) (i : Nat) (h : ¬ i < s.size) : impl_notation_read.next s (i : Int) = some 0 := by
  unfold impl_notation_read.next
  rw [if_neg (by omega)]
/-- What the program's reader hands back. -/
def rdImpl (o : Option (List Int × Nat)) (out : List Int) (r : Bool × Int × List Int) : Prop :=
  match o with
  | some (p, e) => r = (true, (e : Int), out ++ p)
  | none => r.1 = false
theorem idx_byte (s : ByteArray) (c : Int) : strings_IndexByte.f s c = some (idxOf s c) := rfl
theorem impl_read_ev (s : ByteArray) (hs : s.size ≤ 1048576000) : ∀ (n i : Nat) (out : List Int), s.size < i + n → out.length ≤ i → i ≤ s.size + 1 → EvP (fun k => impl_notation_read.f k s (i : Int) out) (rdImpl (rdF s n i) out) := by
  intro n
  induction n with
  | zero =>
    intro i out h ho hle
    refine EvP.unfold (fun k => rfl) ?_
    simp only [impl_notation_read.f]
    rw [impl_next_out s i (by omega)]
    simp only [Option.bind_some]
    exact EvP.pos trivial (EvP.now rfl)
  | succ n ih =>
    intro i out h ho hle
    refine EvP.unfold (fun k => rfl) ?_
    simp only [impl_notation_read.f]
    by_cases hi : i < s.size
    rotate_left
    · rw [impl_next_out s i hi]
      simp only [Option.bind_some]
      refine EvP.pos trivial (EvP.now ?_)
      unfold rdF; rw [if_neg hi]; rfl
    rw [impl_next_in s i hi]
    simp only [Option.bind_some]
    have hr := bt_range s i
    have hu := idx_suit_le hr.1 hr.2
    have hk := idx_rank_le hr.1 hr.2
    rw [w64next i (by omega)]
    unfold rdF
    rw [if_pos hi]
    refine EvP.ite (fun c => ?_) (fun c0 => ?_)
    · rw [c, if_neg (by omega), if_neg (by omega), if_neg (by omega), suit_33.1, if_neg (by omega), suit_33.2, if_pos (by omega)]
      exact EvP.now rfl
    refine EvP.ite (fun c => ?_) (fun c => ?_)
    · rw [if_pos c]
      refine EvP.bind (ih (i + 1) out (by omega) (by omega) (by omega)) (fun r hr => ?_)
      cases hx : rdF s n (i + 1) with
      | none =>
        rw [hx] at hr
        have hr2 : r.1 = false := hr
        exact EvP.neg (by rw [hr2]; simp) (EvP.now rfl)
      | some ax =>
        obtain ⟨a, x⟩ := ax
        rw [hx] at hr
        have hr2 : r = (true, (x : Int), out ++ a) := hr
        have hl := rdF_le s n (i + 1) a x hx
        subst hr2
        refine EvP.pos rfl (EvP.pos (by simp only [List.length_append]; omega) (EvP.now ?_))
        show _ = (true, (x : Int), out ++ (a ++ [-1]))
        rw [List.append_assoc]
    rw [if_neg c]
    refine EvP.ite (fun c => ?_) (fun c => ?_)
    · rw [if_pos c]
      refine EvP.unfold (fun k => rfl) ?_
      simp only [impl_notation_read.pair]
      refine EvP.bind (ih (i + 1) out (by omega) (by omega) (by omega)) (fun r hr => ?_)
      cases hx : rdF s n (i + 1) with
      | none =>
        rw [hx] at hr
        have hr2 : r.1 = false := hr
        exact EvP.neg (by rw [hr2]; simp) (EvP.now rfl)
      | some ax =>
        obtain ⟨a, x⟩ := ax
        rw [hx] at hr
        have hr2 : r = (true, (x : Int), out ++ a) := hr
        have hl := rdF_le s n (i + 1) a x hx
        subst hr2
        refine EvP.pos rfl ?_
        simp only [Option.bind_some]
        by_cases hxs : x < s.size
        rotate_left
        · rw [impl_next_out s x hxs]
          simp only [Option.bind_some]
          rw [if_neg (show ¬ (x < s.size ∧ (bt s (x : Int) = 38 ∨ bt s (x : Int) = 124)) from fun h => hxs h.1)]
          exact EvP.neg (by omega) (EvP.neg (by omega) (EvP.now rfl))
        rw [impl_next_in s x hxs]
        simp only [Option.bind_some]
        have tail : ∀ z : Int, EvP (fun k => impl_notation_read.tail k s (x : Int) (out ++ a) z) (rdImpl ((rdF s n (x + 1)).bind fun b => if b.2 < s.size ∧ bt s (b.2 : Int) = 41 then some (a ++ b.1 ++ [z], b.2 + 1) else none) out) := by
          intro z
          refine EvP.unfold (fun k => rfl) ?_
          simp only [impl_notation_read.tail]
          rw [w64next x (by omega)]
          refine EvP.bind (ih (x + 1) (out ++ a) (by omega) (by rw [List.length_append]; omega) (by omega)) (fun q hq => ?_)
          cases hy : rdF s n (x + 1) with
          | none =>
            rw [hy] at hq
            have hq2 : q.1 = false := hq
            exact EvP.neg (by rw [hq2]; simp) (EvP.now rfl)
          | some by_ =>
            obtain ⟨b, y⟩ := by_
            rw [hy] at hq
            have hq2 : q = (true, (y : Int), out ++ a ++ b) := hq
            have hl2 := rdF_le s n (x + 1) b y hy
            subst hq2
            refine EvP.pos rfl ?_
            simp only [Option.bind_some]
            by_cases hys : y < s.size
            rotate_left
            · rw [impl_next_out s y hys]
              simp only [Option.bind_some]
              rw [if_neg (show ¬ (y < s.size ∧ bt s (y : Int) = 41) from fun h => hys h.1)]
              exact EvP.neg (by omega) (EvP.now rfl)
            rw [impl_next_in s y hys]
            simp only [Option.bind_some]
            refine EvP.ite (fun c4 => ?_) (fun c4 => ?_)
            · rw [if_pos (show y < s.size ∧ bt s (y : Int) = 41 from ⟨hys, c4⟩), w64next y (by omega)]
              refine EvP.pos (by simp only [List.length_append]; omega) (EvP.now ?_)
              show _ = (true, ((y + 1 : Nat) : Int), out ++ (a ++ b ++ [z]))
              simp only [List.append_assoc]
            · rw [if_neg (show ¬ (y < s.size ∧ bt s (y : Int) = 41) from fun h => c4 h.2)]
              exact EvP.now rfl
        refine EvP.ite (fun c2 => ?_) (fun c2 => EvP.ite (fun c3 => ?_) (fun c3 => ?_))
        · rw [if_pos (show x < s.size ∧ (bt s (x : Int) = 38 ∨ bt s (x : Int) = 124) from ⟨hxs, .inl c2⟩), if_neg (show ¬ bt s (x : Int) = 124 by omega)]; exact tail (-2)
        · rw [if_pos (show x < s.size ∧ (bt s (x : Int) = 38 ∨ bt s (x : Int) = 124) from ⟨hxs, .inr c3⟩), if_pos c3]; exact tail (-3)
        · rw [if_neg (show ¬ (x < s.size ∧ (bt s (x : Int) = 38 ∨ bt s (x : Int) = 124)) from fun h => h.2.elim c2 c3)]; exact EvP.now rfl
    rw [if_neg c]
    refine EvP.ite (fun c => ?_) (fun c => ?_)
    · rw [if_pos c]
      exact EvP.pos (by omega) (EvP.now rfl)
    rw [if_neg c, idx_byte, idx_byte]
    simp only [Option.bind_some]
    have e1 : (⟨#[99, 100, 104, 115]⟩ : ByteArray) = suitLetters := rfl
    have e2 : (⟨#[50, 51, 52, 53, 54, 55, 56, 57, 84, 74, 81, 75, 65]⟩ : ByteArray) = rankLetters := rfl
    rw [e1, e2]
    refine EvP.ite (fun c => ?_) (fun c => ?_)
    · rw [if_pos c, w64 _ (by omega)]
      exact EvP.pos (by omega) (EvP.now rfl)
    rw [if_neg (show ¬ 0 ≤ idxOf suitLetters (bt s (i : Int)) by omega)]
    refine EvP.ite (fun c => ?_) (fun c => ?_)
    · rw [if_pos c]; exact EvP.now rfl
    rw [if_neg c, w64 (200 + idxOf rankLetters (bt s (i : Int))) (by omega), w64 (300 + idxOf rankLetters (bt s (i : Int))) (by omega)]
    by_cases h1 : i + 1 < s.size
    · rw [impl_next_in s (i + 1) h1]
      simp only [Option.bind_some]
      refine EvP.ite (fun c2 => ?_) (fun c2 => ?_)
      · rw [if_pos (show i + 1 < s.size ∧ bt s ((i + 1 : Nat) : Int) = 43 from ⟨h1, c2⟩), w64next (i + 1) (by omega)]
        exact EvP.pos (by omega) (EvP.now rfl)
      · rw [if_neg (show ¬ (i + 1 < s.size ∧ bt s ((i + 1 : Nat) : Int) = 43) from fun h => c2 h.2)]
        exact EvP.pos (by omega) (EvP.now rfl)
    · rw [impl_next_out s (i + 1) h1]
      simp only [Option.bind_some]
      rw [if_neg (show ¬ (i + 1 < s.size ∧ bt s ((i + 1 : Nat) : Int) = 43) from fun h => h1 h.1)]
      exact EvP.neg (by omega) (EvP.pos (by omega) (EvP.now rfl))

theorem impl_ParsePattern_ev (s : ByteArray) (hs : s.size ≤ 1048576000) : Ev (fun k => impl_ParsePattern.f k s) (parsePat s) := by
  have h60 : ∀ p, patText p = s → s.size ≤ 60 := fun p h => by rw [← h]; exact patText_size p
  simp only [impl_ParsePattern.f]
  unfold parsePat
  refine ev_ite (fun c => ev_ret ?_) (fun c => ?_)
  · split
    · rfl
    · rw [if_neg (fun h => by have := h60 _ h; omega)]
  refine EvP.use (impl_read_ev s hs (s.size + 1) 0 [] (by omega) (by simp) (by omega)) (fun r hr => ?_)
  cases hx : rdF s (s.size + 1) 0 with
  | none =>
    rw [hx] at hr
    have hr2 : r.1 = false := hr
    exact ev_neg (by rw [hr2]; simp) (ev_ret rfl)
  | some px =>
    obtain ⟨p, e⟩ := px
    rw [hx] at hr
    have hr2 : r = (true, (e : Int), [] ++ p) := hr
    have hl := rdF_le s _ 0 p e hx
    subst hr2
    rw [List.nil_append]
    refine ev_pos rfl (Ev.bind (impl_PatternText_ev p (by omega)) (ev_ite (fun c2 => ev_ret ?_) (fun c2 => ev_ret ?_)))
    · show ((p, true) : List Int × Bool) = if patText p = s then (p, true) else ([], false)
      rw [if_pos (bytes_eq.1 c2)]
    · show (([], false) : List Int × Bool) = if patText p = s then (p, true) else ([], false)
      rw [if_neg (fun h => c2 (bytes_eq.2 h))]

theorem laws_eqIntS_ev (a b : List Int) (ha : a.length ≤ 1048576000) : Ev (fun k => laws_eqIntS.f k a b) (decide (a = b)) := by
  simp only [laws_eqIntS.f]
  refine ev_ite (fun hlen => ?_) (fun hne => ev_ret ?_)
  · have hlen' : a.length = b.length := by omega
    have h := ev_loop (fun k (_ : Unit) i => laws_eqIntS.l0 k a b i) a (fun _ r => decide (r = b.drop (a.length - r.length))) (fun _ _ => True) ?_ ?_ () 0 (by omega) trivial
    · refine ev_done h ?_
      simp
    · rintro _ _
      refine ev_unfold (fun k => rfl) ?_
      simp only [laws_eqIntS.l0]
      refine ev_neg (by omega) (ev_ret ?_)
      rw [List.length_nil, Nat.sub_zero, hlen', drop_end]
      simp
    · rintro _ i hi _ ih
      refine ev_unfold (fun k => rfl) ?_
      simp only [laws_eqIntS.l0]
      refine ev_pos (by omega) (ev_pos (by omega) (ev_pos (by omega) ?_))
      rw [w64next i (by omega), rd_at a i hi, rd_at b i (by omega)]
      have e1 : a.length - (a[i] :: a.drop (i + 1)).length = i := by simp; omega
      have e2 : a.length - (a.drop (i + 1)).length = i + 1 := by simp; omega
      refine ev_ite (fun heq => ?_) (fun hne => ev_ret ?_)
      · refine ev_done (ih () trivial) ?_
        rw [e1, e2, drop_at b i (by omega), heq]
        exact decide_eq_decide.2 ⟨fun h => by rw [h], fun h => (List.cons.inj h).2⟩
      · rw [e1, drop_at b i (by omega)]
        exact (decide_eq_false (fun h => hne (List.cons.inj h).1)).symm
  · have : a ≠ b := by rintro rfl; exact hne rfl
    simp [this]

theorem laws_markIntS_ev (l : List Int) (a : Int) (hl : l.length ≤ 1073741824) (ha : 0 ≤ a ∧ a ≤ 1073741824) : Ev (fun k => laws_markIntS.f k l a) (a + (l.length : Int), marks a l.length) := by
  simp only [laws_markIntS.f]
  refine ev_loop (fun k (s : List Int × Int) i => laws_markIntS.l0 k s.1 s.2 i) l (fun _ _ => (a + (l.length : Int), marks a l.length)) (fun s i => s.1.length = l.length ∧ s.2 = a + i ∧ s.1.take i = marks a i) ?_ ?_ (l, a) 0 (by omega) ⟨rfl, by simp, by simp [marks]⟩
  · rintro ⟨s, n⟩ ⟨h1, h2, h3⟩
    simp only at h1 h2 h3
    refine ev_unfold (fun k => rfl) ?_
    simp only [laws_markIntS.l0]
    refine ev_neg (by omega) (ev_ret ?_)
    rw [List.take_of_length_le (by omega)] at h3
    rw [h2, h3]
  · rintro ⟨s, n⟩ i hi ⟨h1, h2, h3⟩ ih
    simp only at h1 h2 h3
    refine ev_unfold (fun k => rfl) ?_
    simp only [laws_markIntS.l0]
    refine ev_pos (by omega) (ev_pos (by omega) ?_)
    rw [w64next i (by omega), Int.toNat_natCast, w64 (n + 1) (by omega)]
    refine ih (s.set i n, n + 1) ⟨by simpa using h1, by simp only; omega, ?_⟩
    simp only [h2]
    exact marks_step a s i (by omega) h3

theorem spec_l1In_eq (n a b : Int) : spec_l1In.f n a b = some (inR n a b) := by
  unfold spec_l1In.f inR
  by_cases h : a ≤ n
  · rw [if_pos (by omega)]; simp [h]
  · rw [if_neg (by omega)]; simp [h]

theorem spec_l8Leaf_eq (s : Int) : spec_l8Leaf.f s = some (isLeaf s) := by
  unfold spec_l8Leaf.f isLeaf
  simp only [spec_l1In_eq, Option.bind_some]
  repeat' split
  all_goals simp_all

theorem spec_IsPattern_ev (l : List Int) (hl : l.length ≤ 1048576000) : Ev (fun k => spec_IsPattern.f k l) (isPattern l) := by
  simp only [spec_IsPattern.f]
  refine ev_loop (fun k (s : Int) i => spec_IsPattern.l0 k l s i) l (fun s r => decide (patF s r = some 1) && decide (l.length ≤ 20)) (fun s i => 0 ≤ s ∧ s ≤ i) ?_ ?_ 0 0 (by omega) ⟨by omega, by omega⟩
  · rintro s ⟨h1, h2⟩
    refine ev_unfold (fun k => rfl) ?_
    simp only [spec_IsPattern.l0]
    refine ev_neg (by omega) ?_
    refine ev_ite (fun h => ev_ret ?_) (fun h => ev_ret ?_)
    · simp [patF, h]; omega
    · simp [patF, h]
  · rintro s i hi ⟨h1, h2⟩ ih
    have j1 : ∀ b, (b = true → Ev (fun k => spec_IsPattern.l0 k l s ((i + 1 : Nat) : Int)) (decide (patF s (l.drop (i + 1)) = some 1) && decide (l.length ≤ 20))) → Ev (fun k => spec_IsPattern.j1 k l s i b) (if b = true then (decide (patF s (l.drop (i + 1)) = some 1) && decide (l.length ≤ 20)) else if l[i] = -2 ∨ l[i] = -3 then (if s ≥ 2 then (decide (patF (s - 1) (l.drop (i + 1)) = some 1) && decide (l.length ≤ 20)) else false) else false) := by
      intro b hb
      refine ev_unfold (fun k => rfl) ?_
      simp only [spec_IsPattern.j1]
      rw [w64next i (by omega), rd_at l i hi, w64 (s - 1) (by omega)]
      refine ev_ite (fun h => ?_) (fun h => ?_)
      · rw [if_pos h]; exact hb h
      · rw [if_neg h]
        refine ev_pos (by omega) (ev_pos (by omega) ?_)
        refine ev_ite (fun h2 => ?_) (fun h2 => ?_)
        · rw [if_pos (.inl h2)]
          refine ev_ite (fun h3 => ?_) (fun h3 => ?_)
          · rw [if_pos h3]; exact ih _ ⟨by omega, by omega⟩
          · rw [if_neg h3]; exact Ev.now _
        · refine ev_ite (fun h4 => ?_) (fun h4 => ?_)
          · rw [if_pos (.inr h4)]
            refine ev_ite (fun h3 => ?_) (fun h3 => ?_)
            · rw [if_pos h3]; exact ih _ ⟨by omega, by omega⟩
            · rw [if_neg h3]; exact Ev.now _
          · rw [if_neg (by omega)]; exact Ev.now _
    refine ev_unfold (fun k => rfl) ?_
    simp only [spec_IsPattern.l0]
    refine ev_pos (by omega) (ev_pos (by omega) (ev_eq (spec_l8Leaf_eq _) ?_))
    rw [w64next i (by omega), rd_at l i hi, w64 (s + 1) (by omega)]
    unfold patF
    refine ev_ite (fun h => ?_) (fun h => ?_)
    · rw [if_pos h]; exact ih _ ⟨by omega, by omega⟩
    · rw [if_neg h]
      refine ev_ite (fun h2 => ?_) (fun h2 => ?_)
      · rw [if_pos h2]
        refine ev_done (j1 _ (fun _ => ih _ ⟨by omega, by omega⟩)) ?_
        by_cases h3 : s ≥ 1
        · simp [h3]
        · simp [h3]; omega
      · rw [if_neg h2]
        refine ev_done (j1 _ (fun h => by cases h)) ?_
        simp only [Bool.false_eq_true, if_false]
        by_cases h3 : l[i] = -2 ∨ l[i] = -3
        · rw [if_pos h3, if_pos h3]
          by_cases h4 : s ≥ 2
          · rw [if_pos h4, if_pos h4]
          · rw [if_neg h4, if_neg h4]; simp
        · rw [if_neg h3, if_neg h3]; simp

theorem spec_l9Rank_eq (r : Int) (h0 : 0 ≤ r) (h1 : r ≤ 12) : spec_l9Rank.f r = some (letter rankLetters r) := by
  have e1 : (⟨#[50, 51, 52, 53, 54, 55, 56, 57, 84, 74, 81, 75, 65]⟩ : ByteArray) = rankLetters := rfl
  unfold spec_l9Rank.f
  rw [e1, w64 (r + 1) (by omega), if_pos h0, if_pos (by omega), if_pos (by omega)]
  rfl

theorem spec_l9Leaf_eq (s : Int) (h : isLeaf s = true) : spec_l9Leaf.f s = some (signText s) := by
  have hc := leaf_cases h
  have e43 : (⟨#[43]⟩ : ByteArray).size = 1 := rfl
  have e1 : (⟨#[50, 51, 52, 53, 54, 55, 56, 57, 84, 74, 81, 75, 65]⟩ : ByteArray) = rankLetters := rfl
  have e2 : (⟨#[99, 100, 104, 115]⟩ : ByteArray) = suitLetters := rfl
  have hr := rankLetters_size
  have hs := suitLetters_size
  unfold spec_l9Leaf.f signText
  rw [e2]
  by_cases h4 : s = 400
  · rw [if_pos h4, if_pos h4]
  · rw [if_neg h4, if_neg h4]
    by_cases h3 : s ≥ 300
    · rw [if_pos h3, if_pos h3, w64 (s - 300) (by omega)]
      rw [spec_l9Rank_eq _ (by omega) (by omega), Option.bind_some, letter_size _ _ (by omega) (by omega), if_pos (by omega)]
    · rw [if_neg h3, if_neg h3]
      by_cases h2 : s ≥ 200
      · rw [if_pos h2, if_pos h2, w64 (s - 200) (by omega)]
        rw [spec_l9Rank_eq _ (by omega) (by omega), Option.bind_some]
      · rw [if_neg h2, if_neg h2, w64 (s - 100) (by omega), w64 (s - 100 + 1) (by omega), if_pos (by omega), if_pos (by omega), if_pos (by omega)]
        rfl

theorem spec_PatternText_ev (p : List Int) (hl : p.length ≤ 1048576000) : Ev (fun k => spec_PatternText.f k p) (patText p) := by
  have e33 : (⟨#[33]⟩ : ByteArray).size = 1 := rfl
  have e40 : (⟨#[40]⟩ : ByteArray).size = 1 := rfl
  have e38 : (⟨#[38]⟩ : ByteArray).size = 1 := rfl
  have e41 : (⟨#[41]⟩ : ByteArray).size = 1 := rfl
  have e124 : (⟨#[124]⟩ : ByteArray).size = 1 := rfl
  have l0 : isPattern p = true → Ev (fun k => spec_PatternText.l0 k p ([] : List ByteArray) 0) ((pileT [] p).getD 0 ByteArray.empty) := by
    intro hp
    have h20 := isPattern_pos hp
    have hpat : patF 0 p = some 1 := by simp [isPattern] at hp; exact hp.1
    refine ev_done (ev_loop (fun k (s : List ByteArray) i => spec_PatternText.l0 k p s i) p (fun s r => (pileT s r).getD 0 ByteArray.empty) (fun s i => patF (s.length : Int) (p.drop i) = some 1 ∧ s.length ≤ i ∧ i ≤ 20 ∧ ∀ x ∈ s, x.size + 3 ≤ 3 * 2 ^ i) ?_ ?_ [] 0 (by omega) ⟨by simpa using hpat, by simp, by omega, by simp⟩) rfl
    · rintro s ⟨h1, h2, _, _⟩
      rw [drop_end] at h1
      have h3 : (s.length : Int) = 1 := by simpa [patF] using h1
      refine ev_unfold (fun k => rfl) ?_
      simp only [spec_PatternText.l0]
      exact ev_neg (by omega) (ev_pos (by omega) (ev_ret rfl))
    · rintro s i hi ⟨h1, h2, hi2, hsz⟩ ih
      rw [drop_at p i hi] at h1
      obtain ⟨g1, g2, g3, g4, g5, g6⟩ := stepX_length h1
      have hpow : 2 ^ i ≤ 2 ^ 20 := Nat.pow_le_pow_right (by omega) hi2
      have hpos : 1 ≤ 2 ^ i := Nat.one_le_two_pow
      have k1 := topT_size hsz (by omega) 1
      have k2 := topT_size hsz (by omega) 2
      have ih := ih (stepX s p[i]) ⟨g1, by omega, by omega, fun x hx => by have := stepX_size hsz (by omega) g6 x hx; rw [Nat.pow_succ]; omega⟩
      have e : pileT s (p[i] :: p.drop (i + 1)) = pileT (stepX s p[i]) (p.drop (i + 1)) := rfl
      rw [e]
      refine ev_unfold (fun k => rfl) ?_
      simp only [spec_PatternText.l0, Option.bind_some]
      rw [w64next i (by omega), rd_at p i hi]
      refine ev_pos (by omega) (ev_pos (by omega) (ev_ite (fun h => ?_) (fun h => ?_)))
      · have hs := g2 h
        have ew : wrap64 ((s.length : Int) - 1) = ((s.length - 1 : Nat) : Int) := by rw [w64 _ (by omega)]; omega
        have er : rdOf ByteArray.empty s ((s.length - 1 : Nat) : Int) = topT s 1 := by unfold rdOf topT; rw [Int.toNat_natCast]
        rw [ew, er, Int.toNat_natCast]
        refine ev_pos (by omega) (ev_pos (by omega) (ev_pos (by omega) ?_))
        have e2 : s.set (s.length - 1) ((⟨#[33]⟩ : ByteArray) ++ topT s 1) = stepX s p[i] := by unfold stepX; rw [if_pos h]
        rw [e2]; exact ih
      · have two : ∀ (hs : 2 ≤ s.length), wrap64 ((s.length : Int) - 2) = ((s.length - 2 : Nat) : Int) ∧ wrap64 ((s.length : Int) - 1) = ((s.length - 1 : Nat) : Int) ∧ rdOf ByteArray.empty s ((s.length - 2 : Nat) : Int) = topT s 2 ∧ rdOf ByteArray.empty s ((s.length - 1 : Nat) : Int) = topT s 1 := by
          intro hs
          refine ⟨by rw [w64 _ (by omega)]; omega, by rw [w64 _ (by omega)]; omega, ?_, ?_⟩
          · unfold rdOf topT; rw [Int.toNat_natCast]
          · unfold rdOf topT; rw [Int.toNat_natCast]
        refine ev_ite (fun h2 => ?_) (fun h2 => ?_)
        · have hs := g3 h2
          obtain ⟨w2, w1, r2, r1⟩ := two hs
          rw [w2, w1, r2, r1, Int.toNat_natCast]
          simp only [ByteArray.size_append]
          refine ev_pos (by omega) (ev_pos (by omega) (ev_pos (by omega) (ev_pos (by omega) (ev_pos (by omega) (ev_pos (by omega) (ev_pos (by omega) (ev_pos (by omega) (ev_pos (by omega) (ev_pos (by rw [List.length_take]; omega) ?_)))))))))
          have e2 : s.take (s.length - 2) ++ [⟨#[40]⟩ ++ topT s 2 ++ ⟨#[38]⟩ ++ topT s 1 ++ ⟨#[41]⟩] = stepX s p[i] := by unfold stepX; rw [if_neg h, if_pos h2]
          rw [e2]; exact ih
        · refine ev_ite (fun h3 => ?_) (fun h3 => ?_)
          · have hs := g4 h3
            obtain ⟨w2, w1, r2, r1⟩ := two hs
            rw [w2, w1, r2, r1, Int.toNat_natCast]
            simp only [ByteArray.size_append]
            refine ev_pos (by omega) (ev_pos (by omega) (ev_pos (by omega) (ev_pos (by omega) (ev_pos (by omega) (ev_pos (by omega) (ev_pos (by omega) (ev_pos (by omega) (ev_pos (by omega) (ev_pos (by rw [List.length_take]; omega) ?_)))))))))
            have e2 : s.take (s.length - 2) ++ [⟨#[40]⟩ ++ topT s 2 ++ ⟨#[124]⟩ ++ topT s 1 ++ ⟨#[41]⟩] = stepX s p[i] := by unfold stepX; rw [if_neg h, if_neg h2, if_pos h3]
            rw [e2]; exact ih
          · have hL := g6 h h2 h3
            refine ev_eq (spec_l9Leaf_eq _ hL) (ev_pos (by omega) ?_)
            have e2 : s ++ [signText p[i]] = stepX s p[i] := by unfold stepX; rw [if_neg h, if_neg h2, if_neg h3]
            rw [e2]; exact ih
  simp only [spec_PatternText.f]
  unfold patText
  refine Ev.bind (spec_IsPattern_ev p hl) (ev_ite (fun h => ?_) (fun h => ev_ret ?_))
  · rw [if_pos h]; exact l0 h
  · rw [if_neg h]

theorem spec_l9At_ev (s : ByteArray) (c : Int) (hs : s.size ≤ 1048576000) : Ev (fun k => spec_l9At.f k s c) (firstAt s c 0 s.size) := by
  have key : ∀ (m i : Nat), i + m = s.size → Ev (fun k => spec_l9At.l0 k s c (i : Int)) (firstAt s c i m) := by
    intro m
    induction m with
    | zero =>
      intro i h
      refine ev_unfold (fun k => rfl) ?_
      simp only [spec_l9At.l0]
      exact ev_neg (by omega) (ev_ret rfl)
    | succ m ih =>
      intro i h
      refine ev_unfold (fun k => rfl) ?_
      simp only [spec_l9At.l0]
      unfold firstAt
      rw [w64next i (by omega)]
      refine ev_pos (by omega) (ev_pos (by omega) (ev_ite (fun h2 => ev_ret ?_) (fun h2 => ev_done (ih (i + 1) (by omega)) ?_)))
      · rw [if_pos h2]
      · rw [if_neg h2]
  simp only [spec_l9At.f]
  exact key s.size 0 (by omega)
theorem spec_l9At_suit {c : Int} (h0 : 0 ≤ c) (h1 : c < 256) : Ev (fun k => spec_l9At.f k (⟨#[99, 100, 104, 115]⟩ : ByteArray) c) (idxOf suitLetters c) := by
  refine ev_done (spec_l9At_ev _ c (by decide)) ?_
  have := first_suit c.toNat (by omega)
  rw [show (c.toNat : Int) = c by omega] at this
  exact this
theorem spec_l9At_rank {c : Int} (h0 : 0 ≤ c) (h1 : c < 256) : Ev (fun k => spec_l9At.f k (⟨#[50, 51, 52, 53, 54, 55, 56, 57, 84, 74, 81, 75, 65]⟩ : ByteArray) c) (idxOf rankLetters c) := by
  refine ev_done (spec_l9At_ev _ c (by decide)) ?_
  have := first_rank c.toNat (by omega)
  rw [show (c.toNat : Int) = c by omega] at this
  exact this

/-- What the reference's reader hands back at a place, told by the plain reader. -/
def rdSpec (s : ByteArray) (i : Nat) (o : Option (List Int × Nat)) (r : List Int × Int) : Prop :=
  (∀ p e, o = some (p, e) → r = (p, (e : Int))) ∧ (o = none → r.2 = -1) ∧ r.1.length ≤ s.size - i
theorem spec_l9Read_ev (s : ByteArray) (hs : s.size ≤ 1048576000) : ∀ (n i : Nat), s.size < i + n → EvP (fun k => spec_l9Read.f k s (i : Int)) (rdSpec s i (rdF s n i)) := by
  intro n
  induction n with
  | zero =>
    intro i h
    refine EvP.unfold (fun k => rfl) ?_
    simp only [spec_l9Read.f]
    exact EvP.pos (by omega) (EvP.now ⟨fun p e h => (by cases h), fun _ => rfl, Nat.zero_le _⟩)
  | succ n ih =>
    intro i h
    refine EvP.unfold (fun k => rfl) ?_
    simp only [spec_l9Read.f]
    by_cases hi : i < s.size
    rotate_left
    · refine EvP.pos (by omega) (EvP.now ⟨fun p e h => ?_, fun _ => rfl, Nat.zero_le _⟩)
      unfold rdF at h; rw [if_neg hi] at h; cases h
    refine EvP.neg (by omega) (EvP.pos (by omega) (EvP.pos (by omega) ?_))
    have hr := bt_range s i
    rw [w64next i (by omega)]
    unfold rdF
    rw [if_pos hi]
    refine EvP.ite (fun c => ?_) (fun c => ?_)
    · rw [if_pos c]
      refine EvP.bind (ih (i + 1) (by omega)) (fun r hr => ?_)
      obtain ⟨h1, h2, h3⟩ := hr
      refine EvP.pos (by omega) (EvP.now ⟨fun p e he => ?_, fun he => ?_, ?_⟩)
      · obtain ⟨⟨a, x⟩, ha, he⟩ := Option.bind_eq_some_iff.1 he
        simp only [Option.some.injEq, Prod.mk.injEq] at he
        obtain ⟨rfl, rfl⟩ := he
        rw [h1 a x ha]
      · cases hx : rdF s n (i + 1) with
        | none => exact h2 hx
        | some a => rw [hx] at he; cases he
      · simp only [List.length_append, List.length_singleton]; omega
    rw [if_neg c]
    refine EvP.ite (fun c => ?_) (fun c => ?_)
    · rw [if_pos c]
      refine EvP.bind (ih (i + 1) (by omega)) (fun r hr => ?_)
      obtain ⟨h1, h2, h3⟩ := hr
      -- no second pattern
      have no : ∀ (o : Option (List Int × Nat)), o = none → EvP (fun k => spec_l9Read.j0 k s r.1 r.2 true) (rdSpec s i o) := by
        intro o ho
        refine EvP.unfold (fun k => rfl) ?_
        simp only [spec_l9Read.j0]
        exact EvP.pos trivial (EvP.now ⟨fun p e h => (by rw [ho] at h; cases h), fun _ => rfl, Nat.zero_le _⟩)
      cases hx : rdF s n (i + 1) with
      | none =>
        have := h2 hx
        exact EvP.pos (by omega) (no _ rfl)
      | some ax =>
        obtain ⟨a, x⟩ := ax
        have hl := rdF_le s n (i + 1) a x hx
        have e := h1 a x hx
        obtain ⟨r1, r2⟩ := r
        simp only [Prod.mk.injEq] at e
        obtain ⟨rfl, rfl⟩ := e
        simp only at no h3 ⊢
        refine EvP.neg (by omega) ?_
        simp only [Option.bind_some]
        refine EvP.ite (fun c1 => no _ (if_neg (by omega))) (fun c1 => ?_)
        have hbx := bt_range s x
        have yes : (bt s (x : Int) = 38 ∨ bt s (x : Int) = 124) → EvP (fun k => spec_l9Read.j0 k s r1 (x : Int) false) (rdSpec s i ((rdF s n (x + 1)).bind fun b => if b.2 < s.size ∧ bt s (b.2 : Int) = 41 then some (r1 ++ b.1 ++ [if bt s (x : Int) = 124 then -3 else -2], b.2 + 1) else none)) := by
          intro hc2
          refine EvP.unfold (fun k => rfl) ?_
          simp only [spec_l9Read.j0]
          rw [w64next x (by omega)]
          refine EvP.neg (by simp) (EvP.bind (ih (x + 1) (by omega)) (fun q hq => ?_))
          obtain ⟨g1, g2, g3⟩ := hq
          have no1 : ∀ (o : Option (List Int × Nat)), o = none → EvP (fun k => spec_l9Read.j1 k s r1 (x : Int) q.1 q.2 true) (rdSpec s i o) := by
            intro o ho
            refine EvP.unfold (fun k => rfl) ?_
            simp only [spec_l9Read.j1]
            exact EvP.pos trivial (EvP.now ⟨fun p e h => (by rw [ho] at h; cases h), fun _ => rfl, Nat.zero_le _⟩)
          cases hy : rdF s n (x + 1) with
          | none =>
            have := g2 hy
            exact EvP.pos (by omega) (no1 _ rfl)
          | some by_ =>
            obtain ⟨b, y⟩ := by_
            have hl2 := rdF_le s n (x + 1) b y hy
            have e := g1 b y hy
            obtain ⟨q1, q2⟩ := q
            simp only [Prod.mk.injEq] at e
            obtain ⟨rfl, rfl⟩ := e
            simp only at no1 g3 ⊢
            refine EvP.neg (by omega) ?_
            simp only [Option.bind_some]
            refine EvP.ite (fun c3 => no1 _ (if_neg (by omega))) (fun c3 => EvP.pos (by omega) (EvP.pos (by omega) ?_))
            by_cases c4 : bt s (y : Int) = 41
            · rw [if_pos ⟨by omega, c4⟩, show (bt s (y : Int) != 41) = false by simp [c4]]
              refine EvP.unfold (fun k => rfl) ?_
              simp only [spec_l9Read.j1]
              rw [w64next y (by omega)]
              refine EvP.neg (by simp) (EvP.pos (by omega) (EvP.pos (by omega) (EvP.ite (fun c5 => ?_) (fun c5 => ?_))))
              · refine EvP.pos (by omega) ?_
                simp only [Option.bind_some]
                refine EvP.pos (by rw [List.length_append]; omega) (EvP.now ⟨fun p e he => ?_, fun he => (by cases he), ?_⟩)
                · rw [if_pos c5] at he
                  simp only [Option.some.injEq, Prod.mk.injEq] at he
                  obtain ⟨rfl, rfl⟩ := he
                  rfl
                · simp only [List.length_append, List.length_singleton]; omega
              · refine EvP.pos (by omega) ?_
                simp only [Option.bind_some]
                refine EvP.pos (by rw [List.length_append]; omega) (EvP.now ⟨fun p e he => ?_, fun he => (by cases he), ?_⟩)
                · rw [if_neg c5] at he
                  simp only [Option.some.injEq, Prod.mk.injEq] at he
                  obtain ⟨rfl, rfl⟩ := he
                  rfl
                · simp only [List.length_append, List.length_singleton]; omega
            · rw [show (bt s (y : Int) != 41) = true by simp [c4]]
              exact no1 _ (if_neg (fun h => c4 h.2))
        refine EvP.pos (by omega) (EvP.pos (by omega) (EvP.ite (fun c2 => ?_) (fun c2 => ?_)))
        · rw [if_pos ⟨by omega, .inl c2⟩]; exact yes (.inl c2)
        · by_cases c3 : bt s (x : Int) = 124
          · rw [if_pos ⟨by omega, .inr c3⟩, show (bt s (x : Int) != 124) = false by simp [c3]]; exact yes (.inr c3)
          · rw [show (bt s (x : Int) != 124) = true by simp [c3]]
            exact no _ (if_neg (fun h => h.2.elim c2 c3))
    rw [if_neg c]
    refine EvP.ite (fun c => ?_) (fun c => ?_)
    · rw [if_pos c]
      exact EvP.now ⟨fun p e he => (by simp only [Option.some.injEq, Prod.mk.injEq] at he; obtain ⟨rfl, rfl⟩ := he; rfl), fun he => (by cases he), by simp only [List.length_singleton]; omega⟩
    rw [if_neg c]
    have hu := idx_suit_le hr.1 hr.2
    have hk := idx_rank_le hr.1 hr.2
    refine EvP.bind (EvP.of (P := fun r => r = idxOf suitLetters (bt s (i : Int))) (spec_l9At_suit hr.1 hr.2) rfl) (fun t ht => ?_)
    subst ht
    refine EvP.ite (fun c => ?_) (fun c => ?_)
    · rw [if_pos c, w64 _ (by omega)]
      exact EvP.now ⟨fun p e he => (by simp only [Option.some.injEq, Prod.mk.injEq] at he; obtain ⟨rfl, rfl⟩ := he; rfl), fun he => (by cases he), by simp only [List.length_singleton]; omega⟩
    rw [if_neg (by omega)]
    refine EvP.bind (EvP.of (P := fun r => r = idxOf rankLetters (bt s (i : Int))) (spec_l9At_rank hr.1 hr.2) rfl) (fun t ht => ?_)
    subst ht
    refine EvP.ite (fun c => ?_) (fun c => ?_)
    · rw [if_pos c]
      exact EvP.now ⟨fun p e he => (by cases he), fun _ => rfl, Nat.zero_le _⟩
    rw [if_neg c, w64 (200 + idxOf rankLetters (bt s (i : Int))) (by omega), w64 (300 + idxOf rankLetters (bt s (i : Int))) (by omega), w64 ((i : Int) + 2) (by omega)]
    refine EvP.ite (fun c1 => EvP.pos (by omega) (EvP.ite (fun c2 => ?_) (fun c2 => ?_))) (fun c1 => ?_)
    · rw [if_pos ⟨by omega, c2⟩]
      exact EvP.now ⟨fun p e he => (by simp only [Option.some.injEq, Prod.mk.injEq] at he; obtain ⟨rfl, rfl⟩ := he; rfl), fun he => (by cases he), by simp only [List.length_singleton]; omega⟩
    · rw [if_neg (fun h => c2 h.2)]
      exact EvP.now ⟨fun p e he => (by simp only [Option.some.injEq, Prod.mk.injEq] at he; obtain ⟨rfl, rfl⟩ := he; rfl), fun he => (by cases he), by simp only [List.length_singleton]; omega⟩
    · rw [if_neg (fun h => by omega)]
      exact EvP.now ⟨fun p e he => (by simp only [Option.some.injEq, Prod.mk.injEq] at he; obtain ⟨rfl, rfl⟩ := he; rfl), fun he => (by cases he), by simp only [List.length_singleton]; omega⟩

theorem spec_ParsePattern_ev (s : ByteArray) (hs : s.size ≤ 1048576000) : Ev (fun k => spec_ParsePattern.f k s) (parsePat s) := by
  have h60 : ∀ p, patText p = s → s.size ≤ 60 := fun p h => by rw [← h]; exact patText_size p
  have none_ : s.toList = [] → parsePat s = ([], false) := by
    intro h
    have h0 : s = ⟨#[]⟩ := bytes_eq.1 (by rw [h, Go.Lib.toList_data])
    rw [h0]; rfl
  simp only [spec_ParsePattern.f]
  refine ev_ite (fun c => ev_ret ?_) (fun c => ?_)
  · unfold parsePat
    split
    · rfl
    · rw [if_neg (fun h => by have := h60 _ h; omega)]
  refine EvP.use (spec_l9Read_ev s hs (s.size + 1) 0 (by omega)) (fun r hr => ?_)
  obtain ⟨h1, h2, h3⟩ := hr
  refine ev_ite (fun c0 => ev_ret (none_ c0).symm) (fun c0 => ?_)
  unfold parsePat
  cases hx : rdF s (s.size + 1) 0 with
  | none =>
    have := h2 hx
    exact ev_neg (by omega) (ev_ret rfl)
  | some px =>
    obtain ⟨p, e⟩ := px
    have he := h1 p e hx
    subst he
    simp only at h3 ⊢
    refine ev_ite (fun c1 => ?_) (fun c1 => ev_ret ?_)
    · refine Ev.bind (spec_PatternText_ev p (by omega)) (ev_ite (fun c2 => ev_ret ?_) (fun c2 => ev_ret ?_))
      · rw [if_pos (bytes_eq.1 c2)]
      · rw [if_neg (fun h => c2 (bytes_eq.2 h))]
    · rw [if_neg (fun h => by have := (read_back hx h).1; omega)]

theorem laws_heldIntS_ev (n : Nat) (a : Int) (hn : n ≤ 1073741824) (ha : 0 ≤ a ∧ a ≤ 1073741824) : Ev (fun k => laws_heldIntS.f k (marks a n) a) (a + (n : Int)) := by
  have hl := marks_length a n
  simp only [laws_heldIntS.f]
  refine ev_loop (fun k (s : Int) i => laws_heldIntS.l0 k (marks a n) s i) (marks a n) (fun _ _ => a + (n : Int)) (fun s i => s = a + i) ?_ ?_ a 0 (by omega) (by simp)
  · rintro s h
    refine ev_unfold (fun k => rfl) ?_
    simp only [laws_heldIntS.l0]
    refine ev_neg (by omega) (ev_ret ?_)
    rw [h, hl]
  · rintro s i hi h ih
    refine ev_unfold (fun k => rfl) ?_
    simp only [laws_heldIntS.l0]
    refine ev_pos (by omega) (ev_pos (by omega) ?_)
    rw [w64next i (by omega), rd_at _ i hi, marks_at, w64 (s + 1) (by omega)]
    refine ev_pos h.symm (ih _ (by omega))

theorem FnExactParsePattern : laws_FnExactParsePattern.Pure := by
  intro s _
  refine Ev.rounds ?_
  simp only [laws_FnExactParsePattern.f]
  refine ev_ite (fun _ => Ev.now _) (fun h => ?_)
  have hs : s.size ≤ 1048576 := by omega
  have hg := parsePat_length s
  have eqs := laws_eqIntS_ev (parsePat s).1 (parsePat s).1 (by omega)
  have ei := impl_ParsePattern_ev s (by omega)
  have j0 : Ev (fun k => laws_FnExactParsePattern.j0 k s (parsePat s).1 (parsePat s).2 (parsePat s).1 false) true := by
    refine ev_unfold (fun k => rfl) ?_
    simp only [laws_FnExactParsePattern.j0]
    refine ev_neg (by simp) (Ev.bind (laws_markIntS_ev _ 1 (by omega) (by omega)) (Ev.bind (laws_heldIntS_ev _ 1 (by omega) (by omega)) (ev_neg (by omega) (ev_pos rfl (Ev.bind ei (Ev.bind eqs (ev_pos (by simp) ?_)))))))
    refine ev_unfold (fun k => rfl) ?_
    simp only [laws_FnExactParsePattern.j1]
    refine ev_neg (by simp) (Ev.bind (laws_heldIntS_ev _ 1 (by omega) (by omega)) (ev_neg (by omega) (ev_pos rfl (Ev.now _))))
  refine Ev.bind (spec_ParsePattern_ev s (by omega)) (Ev.bind ei (Ev.bind eqs (ev_pos (by simp) ?_)))
  refine ev_done (Ev.congr (fun k => ?_) j0) rfl
  simp

end Go.Proofs.Ytecjbogconeilaa.Pure
