/- In the given program FnFives answers true for every input, by what its functions compute; no condition. -/
import Derived.Test.YtecjbogconeilaaQFnFivesx8
import Derived.Test.YtecjbogconeilaaLib
import Derived.Test.YtecjbogconeilaaCards
import Derived.Test.YtecjbogconeilaaCards2
import Derived.Test.YtecjbogconeilaaCalls
import Derived.Test.YtecjbogconeilaaHands
import Derived.Test.YtecjbogconeilaaSort
import Derived.Test.YtecjbogconeilaaKinds
import Derived.Test.YtecjbogconeilaaDraw
import Derived.Test.YtecjbogconeilaaAsc
import Derived.Test.YtecjbogconeilaaDeal
import Derived.Test.YtecjbogconeilaaFive
import Derived.Test.YtecjbogconeilaaKeys
namespace Go.Proofs.Ytecjbogconeilaa.Pure
open Go.RowKit Go.Proofs.Ytecjbogconeilaa.QFnFives Go.Proofs.YtecjbogconeilaaW.PrintWords Go.Proofs.YtecjbogconeilaaW.PrintLast Go.Proofs.YtecjbogconeilaaW.PrintMore Go.Proofs.Ytecjbogconeilaa.Lib
set_option linter.unusedVariables false
set_option linter.unusedSimpArgs false

theorem laws_big_eq (l : List Int) : laws_big.f l = some (decide ((l.length : Int) > 1048576)) := rfl

theorem impl_InRange_eq (n a b : Int) : impl_InRange.f n a b = some (inR n a b) := by
  unfold impl_InRange.f inR
  by_cases h : a ≤ n
  · rw [if_pos (by omega)]; simp [h]
  · rw [if_neg (by omega)]; simp [h]

theorem impl_IsCard_eq (c : Int) : impl_IsCard.f c = some (isCard c) := by
  unfold impl_IsCard.f isCard
  rw [impl_InRange_eq]; rfl

theorem impl_IsHand_ev (l : List Int) (hl : l.length ≤ 1048576000) : Ev (fun k => impl_IsHand.f k l) (isHand l) := by
  simp only [impl_IsHand.f]
  refine ev_done (ev_loopN (fun k (s : List Bool) i => impl_IsHand.l0 k l s i) l.length (fun _ i => handF (l.take i) (l.drop i)) (fun s i => s.length = 52 ∧ ∀ c : Nat, c < 52 → s.getD c false = decide ((c : Int) ∈ l.take i)) ?_ ?_ _ 0 (by omega) ⟨by simp, fun c hc => by rw [List.getD_eq_getElem?_getD, List.getElem?_replicate, if_pos hc]; simp⟩) (by simp [isHand])
  · rintro s _
    refine ev_unfold (fun k => rfl) ?_
    simp only [impl_IsHand.l0]
    refine ev_neg (by omega) (ev_ret ?_)
    rw [drop_end]; rfl
  · rintro s i hi ⟨h52, hs⟩ ih
    refine ev_unfold (fun k => rfl) ?_
    simp only [impl_IsHand.l0]
    rw [w64next i (by omega), rd_at l i hi, drop_at l i hi]
    unfold handF
    refine ev_pos (by omega) (ev_pos (by omega) (ev_eq (impl_IsCard_eq _) (ev_ite (fun h => ?_) (fun h => ev_ret ?_))))
    · have hc := (isCard_iff _).1 h
      have he := hs l[i].toNat (by omega)
      rw [show ((l[i].toNat : Nat) : Int) = l[i] by omega] at he
      refine ev_pos (by omega) (ev_pos (by omega) (ev_ite (fun h2 => ev_ret ?_) (fun h2 => ev_done (ih _ ⟨by simpa using h52, fun c hc2 => ?_⟩) ?_)))
      · rw [h2] at he
        unfold hasCard
        rw [← he]; simp
      · rw [take_at l i hi, List.getD_eq_getElem?_getD, List.getElem?_set]
        have h3 := hs c hc2
        rw [List.getD_eq_getElem?_getD] at h3
        by_cases hci : l[i].toNat = c
        · rw [if_pos hci, if_pos (by omega)]
          have : (c : Int) = l[i] := by omega
          exact (decide_eq_true (List.mem_append.2 (.inr (by rw [this]; exact List.mem_singleton.2 rfl)))).symm
        · rw [if_neg hci, h3]
          have : ¬ (c : Int) = l[i] := by omega
          exact decide_eq_decide.2 ⟨fun h => List.mem_append.2 (.inl h), fun h => (List.mem_append.1 h).resolve_right (fun h => this (List.mem_singleton.1 h))⟩
      · rw [Bool.not_eq_true] at h2
        rw [h2] at he
        unfold hasCard
        rw [h, ← he, take_at l i hi]; simp
    · rw [Bool.not_eq_true] at h
      rw [h]; simp

theorem spec_l1New_ev (l : List Int) (hl : l.length ≤ 140737488351232) : EvP (fun k => spec_l1New.f k l) (fun r => r.1 = l ∧ Cur l r.2.1) := by
  have key : ∀ (d i : Nat) (h : Int), i + d = l.length → EvP (fun k => spec_l1New.l0 k l h (i : Int)) (fun r => r.1 = l ∧ Cur l r.2.1) := by
    intro d
    induction d with
    | zero =>
      intro i h hd
      refine EvP.unfold (fun k => rfl) ?_
      simp only [spec_l1New.l0]
      exact EvP.neg (by omega) (EvP.now ⟨rfl, by unfold Cur; simp only; omega⟩)
    | succ d ih =>
      intro i h hd
      refine EvP.unfold (fun k => rfl) ?_
      simp only [spec_l1New.l0]
      refine EvP.pos (by omega) (EvP.ite (fun _ => EvP.pos (by omega) ?_) (fun _ => EvP.now ⟨rfl, by unfold Cur; simp only; omega⟩))
      rw [w64next i (by omega)]
      exact ih (i + 1) _ (by omega)
  simp only [spec_l1New.f]
  exact key l.length 0 _ (by omega)

theorem spec_HasCard_ev (l : List Int) (c : Int) (hl : l.length ≤ 1048576000) : Ev (fun k => spec_HasCard.f k l c) (hasCard l c) := by
  simp only [spec_HasCard.f]
  refine ev_done (ev_loop (fun k (_ : Unit) i => spec_HasCard.l0 k l c i) l (fun _ r => hasCard r c) (fun _ _ => True) ?_ ?_ () 0 (by omega) trivial) rfl
  · rintro s _
    refine ev_unfold (fun k => rfl) ?_
    simp only [spec_HasCard.l0]
    exact ev_neg (by omega) (ev_ret (by simp [hasCard]))
  · rintro s i hi _ ih
    refine ev_unfold (fun k => rfl) ?_
    simp only [spec_HasCard.l0]
    rw [w64next i (by omega), rd_at l i hi]
    refine ev_pos (by omega) (ev_pos (by omega) (ev_ite (fun h => ev_ret ?_) (fun h => ev_done (ih () trivial) ?_)))
    · simp [hasCard, h]
    · have h2 : ¬ c = l[i] := fun e => h e.symm
      simp only [hasCard, List.mem_cons]
      exact decide_eq_decide.2 ⟨fun h => .inr h, fun h => h.resolve_left h2⟩

theorem spec_l1Byte_ok (b : List Int) (i h : Int) (hc : Cur b i) : OkP (spec_l1Byte.f b i h) (fun r => 0 ≤ r.1 ∧ r.1 ≤ 255 ∧ Cur b r.2.1) := by
  obtain ⟨h0, h1, h2⟩ := hc
  unfold spec_l1Byte.f
  refine OkP.ite (fun h3 => OkP.pos h0 (OkP.now ?_)) (fun h3 => OkP.now ?_)
  · have := and_mask (wrap64 ((Go.bits .and .i64 (Go.bits .xor .i64 ((wrap64 ((wrap64 (h * 6364136223846793005)) + 1442695040888963407)) / 8589934592) ((wrap64 ((wrap64 (h * 6364136223846793005)) + 1442695040888963407)) / 140737488355328)) 255) + (wrap64 (rd b i)))) 255 (by omega)
    refine ⟨this.1, this.2, ?_⟩
    unfold Cur
    simp only
    rw [w64 _ (by omega)]
    omega
  · have := and_mask (Go.bits .xor .i64 ((wrap64 ((wrap64 (h * 6364136223846793005)) + 1442695040888963407)) / 8589934592) ((wrap64 ((wrap64 (h * 6364136223846793005)) + 1442695040888963407)) / 140737488355328)) 255 (by omega)
    exact ⟨this.1, this.2, h0, h1, h2⟩

theorem spec_l1Below_ok (b : List Int) (i h n : Int) (hc : Cur b i) (hn : n ≤ 1000000000) : OkP (spec_l1Below.f b i h n) (fun r => 0 ≤ r.1 ∧ (0 < n → r.1 < n) ∧ (n ≤ 0 → r.1 = 0) ∧ Cur b r.2.1) := by
  unfold spec_l1Below.f
  refine OkP.ite (fun h1 => OkP.now ⟨Int.le_refl 0, fun h => absurd h (by omega), fun _ => rfl, hc⟩) (fun h1 => OkP.ite (fun h2 => ?_) (fun h2 => ?_))
  · refine (spec_l1Byte_ok b i h hc).bind (fun r hr => OkP.neg (by omega) (OkP.now ?_))
    have := tmod_range (x := r.1) (n := n) hr.1 (by omega)
    exact ⟨this.1, fun _ => this.2, fun h => absurd h h1, hr.2.2⟩
  · refine (spec_l1Byte_ok b i h hc).bind (fun r hr => (spec_l1Byte_ok b _ _ hr.2.2).bind (fun s hs => (spec_l1Byte_ok b _ _ hs.2.2).bind (fun t ht => OkP.neg (by omega) (OkP.now ?_))))
    have e : wrap64 ((wrap64 ((wrap64 (r.1 * 65536)) + (wrap64 (s.1 * 256)))) + t.1) = r.1 * 65536 + s.1 * 256 + t.1 := by
      rw [w64 (r.1 * 65536) (by omega), w64 (s.1 * 256) (by omega), w64 (r.1 * 65536 + s.1 * 256) (by omega), w64 _ (by omega)]
    simp only
    rw [e]
    have := tmod_range (x := r.1 * 65536 + s.1 * 256 + t.1) (n := n) (by omega) (by omega)
    exact ⟨this.1, fun _ => this.2, fun h => absurd h h1, ht.2.2⟩

theorem spec_l1Once_ok (b : List Int) (i h n : Int) (hc : Cur b i) (hn : n ≤ 1000000000) : OkP (spec_l1Once.f b i h n) (fun r => Cur b r.2.1) := by
  unfold spec_l1Once.f
  exact (spec_l1Below_ok b i h n hc hn).bind (fun r hr => OkP.now hr.2.2.2)

theorem spec_l1Int_ok (b : List Int) (i h : Int) (l : List Int) (hc : Cur b i) (h0 : 0 < l.length) (hl : l.length ≤ 1000000000) : OkP (spec_l1Int.f b i h l) (fun r => r.1 ∈ l ∧ Cur b r.2.1) := by
  unfold spec_l1Int.f
  refine (spec_l1Below_ok b i h (l.length : Int) hc (by omega)).bind (fun r hr => OkP.pos hr.1 (OkP.pos (hr.2.1 (by omega)) (OkP.now ⟨?_, hr.2.2.2⟩)))
  obtain ⟨j, hj⟩ : ∃ j : Nat, r.1 = (j : Int) := ⟨r.1.toNat, by have := hr.1; omega⟩
  have hj2 : j < l.length := by have := hr.2.1 (by omega); omega
  simp only
  rw [hj, rd_at l j hj2]
  exact List.getElem_mem hj2

theorem spec_l5Some_ev (b : List Int) (i h n : Int) (hc : Cur b i) (hn : n ≤ 40) : EvP (fun k => spec_l5Some.f k b i h n) (fun r => r.1.length ≤ 40 ∧ Cur b r.2.1) := by
  -- the search for a card that isn't there ends
  have l1 : ∀ (out : List Int) (j i h : Int), out.length < 52 → (∀ c : Int, EvP (fun k => spec_l5Some.l0 k n (out ++ [c]) (wrap64 (j + 1)) b i h) (fun r => r.1.length ≤ 40 ∧ Cur b r.2.1)) →
      ∀ (d x : Nat), x < 52 → (((x + 7 * d) % 52 : Nat) : Int) ∉ out → EvP (fun k => spec_l5Some.l1 k n out j (x : Int) b i h) (fun r => r.1.length ≤ 40 ∧ Cur b r.2.1) := by
    intro out j i h ho hk d
    induction d with
    | zero =>
      intro x hx hd
      have e : (x + 7 * 0) % 52 = x := by omega
      rw [e] at hd
      refine EvP.unfold (fun k => rfl) ?_
      simp only [spec_l5Some.l1]
      refine EvP.bind (EvP.of (P := fun a => a = hasCard out (x : Int)) (spec_HasCard_ev out (x : Int) (by omega)) rfl) (fun a ha => ?_)
      have : a = false := by rw [ha]; simp [hasCard, hd]
      rw [this]
      exact EvP.neg (by simp) (EvP.pos (by omega) (hk _))
    | succ d ih =>
      intro x hx hd
      refine EvP.unfold (fun k => rfl) ?_
      simp only [spec_l5Some.l1]
      refine EvP.bind (EvP.of (P := fun a => a = hasCard out (x : Int)) (spec_HasCard_ev out (x : Int) (by omega)) rfl) (fun a ha => EvP.ite (fun _ => ?_) (fun _ => EvP.pos (by omega) (hk _)))
      have e : Int.tmod (wrap64 ((x : Int) + 7)) 52 = (((x + 7) % 52 : Nat) : Int) := by
        rw [w64 _ (by omega), Int.tmod_eq_emod_of_nonneg (by omega)]; omega
      rw [e]
      refine ih _ (Nat.mod_lt _ (by omega)) ?_
      have e2 : ((x + 7) % 52 + 7 * d) % 52 = (x + 7 * (d + 1)) % 52 := by omega
      rw [e2]; exact hd
  have l0 : ∀ (d : Nat) (out : List Int) (j i h : Int), 0 ≤ j → (d : Int) = max 0 (n - j) → (out.length : Int) = j → j ≤ max 0 n → Cur b i → EvP (fun k => spec_l5Some.l0 k n out j b i h) (fun r => r.1.length ≤ 40 ∧ Cur b r.2.1) := by
    intro d
    induction d with
    | zero =>
      intro out j i h hj hd ho hj2 hc
      refine EvP.unfold (fun k => rfl) ?_
      simp only [spec_l5Some.l0]
      exact EvP.neg (by omega) (EvP.now ⟨by simp only; omega, hc⟩)
    | succ d ih =>
      intro out j i h hj hd ho hj2 hc
      refine EvP.unfold (fun k => rfl) ?_
      simp only [spec_l5Some.l0]
      refine EvP.pos (by omega) (EvP.bind (spec_l1Below_ok b i h 52 hc (by omega)).ev (fun r hr => ?_))
      have h1 := hr.2.1 (by omega)
      have h0 := hr.1
      obtain ⟨x, hx⟩ : ∃ x : Nat, r.1 = (x : Int) := ⟨r.1.toNat, by omega⟩
      rw [hx]
      have hx2 : x < 52 := by omega
      obtain ⟨q, _, hq⟩ := seven_free out (by omega) x hx2
      refine l1 out j _ _ (by omega) (fun c => ?_) q x hx2 hq
      rw [w64 (j + 1) (by omega)]
      exact ih _ _ _ _ (by omega) (by omega) (by simp; omega) (by omega) hr.2.2.2
  simp only [spec_l5Some.f]
  exact l0 (max 0 n).toNat [] 0 i h (by omega) (by omega) rfl (by omega) hc

theorem impl_RankOf_eq (c : Int) : impl_RankOf.f c = some (rankOf c) := by
  unfold impl_RankOf.f rankOf
  rw [impl_IsCard_eq]
  simp only [Option.bind_some]
  by_cases h : isCard c = true
  · rw [if_pos h, if_pos h, Int.tmod_eq_emod_of_nonneg ((isCard_iff c).1 h).1]
  · rw [if_neg h, if_neg h]

theorem impl_ranked_ev (l : List Int) (hc : ∀ c ∈ l, isCard c = true) (hl : l.length ≤ 1048576000) : Ev (fun k => impl_ranked.f k l) (rkOf (cnt l), mnOf (cnt l)) := by
  have l1 : ∀ n : List Int, n.length = 13 → Ev (fun k => impl_ranked.l1 k n [] [] 4) (rkOf n, mnOf n) := by
    intro n hn
    have z : ∀ x y : List Int, x.length ≤ 1000 → y.length ≤ 1000 → Ev (fun k => impl_ranked.l1 k n x y ((0 : Nat) : Int)) (x, y) := by
      intro x y _ _
      refine ev_unfold (fun k => rfl) ?_
      simp only [impl_ranked.l1]
      exact ev_neg (by omega) (Ev.now _)
    have up : ∀ (c q : Nat) (_ : c ≤ 100) (_ : q ≤ 900) (V : List Int → List Int → List Int × List Int), (∀ x y : List Int, x.length ≤ q + 13 → y.length ≤ q + 13 → Ev (fun k => impl_ranked.l1 k n x y (c : Int)) (V x y)) → ∀ x y : List Int, x.length ≤ q → y.length ≤ q → Ev (fun k => impl_ranked.l1 k n x y ((c + 1 : Nat) : Int)) (V (x ++ rkDown n ((c : Int) + 1) 13) (y ++ (rkDown n ((c : Int) + 1) 13).map fun _ => (c : Int) + 1)) := by
      intro c q hc2 hq V hV x y hx hy
      refine ev_unfold (fun k => rfl) ?_
      simp only [impl_ranked.l1]
      refine ev_pos (by omega) ?_
      have key : ∀ m : Nat, m ≤ 13 → ∀ x y : List Int, x.length + m ≤ q + 13 → y.length + m ≤ q + 13 → Ev (fun k => impl_ranked.l2 k n x y ((c : Int) + 1) ((m : Int) - 1)) (V (x ++ rkDown n ((c : Int) + 1) m) (y ++ (rkDown n ((c : Int) + 1) m).map fun _ => (c : Int) + 1)) := by
        intro m
        induction m with
        | zero =>
          intro _ x y hx hy
          refine ev_unfold (fun k => rfl) ?_
          simp only [impl_ranked.l2]
          refine ev_neg (by omega) ?_
          rw [show wrap64 ((c : Int) + 1 - 1) = (c : Int) by rw [w64 _ (by omega)]; omega]
          simpa [rkDown] using hV x y (by omega) (by omega)
        | succ m ih =>
          intro hm x y hx hy
          refine ev_unfold (fun k => rfl) ?_
          simp only [impl_ranked.l2]
          rw [show ((m + 1 : Nat) : Int) - 1 = (m : Int) by omega, show wrap64 ((m : Int) - 1) = (m : Int) - 1 by rw [w64 _ (by omega)]]
          refine ev_pos (by omega) (ev_pos (by omega) (ev_pos (by omega) ?_))
          unfold rkDown
          rw [show rd n (m : Int) = n.getD m 0 by unfold rd; rw [Int.toNat_natCast]]
          refine ev_ite (fun h => ?_) (fun h => ?_)
          · rw [if_pos h]
            refine ev_pos (by omega) (ev_pos (by omega) ?_)
            refine ev_done (ih (by omega) (x ++ [(m : Int)]) (y ++ [(c : Int) + 1]) (by simp; omega) (by simp; omega)) (by simp)
          · rw [if_neg h]
            exact ih (by omega) x y (by omega) (by omega)
      have := key 13 (by omega) x y (by omega) (by omega)
      simpa using this
    have u1 := up 0 60 (by omega) (by omega) _ (fun x y hx hy => z x y (by omega) (by omega))
    have u2 := up 1 40 (by omega) (by omega) _ (fun x y hx hy => u1 x y (by omega) (by omega))
    have u3 := up 2 20 (by omega) (by omega) _ (fun x y hx hy => u2 x y (by omega) (by omega))
    have u4 := up 3 0 (by omega) (by omega) _ (fun x y hx hy => u3 x y (by omega) (by omega))
    have := u4 [] [] (by simp) (by simp)
    refine ev_done this ?_
    simp [rkOf, mnOf]
  simp only [impl_ranked.f]
  refine ev_done (ev_loop (fun k (s : List Int) i => impl_ranked.l0 k l s i) l (fun s r => (rkOf (cntF s r), mnOf (cntF s r))) (fun s i => s.length = 13 ∧ ∀ x ∈ s, 0 ≤ x ∧ x ≤ (i : Int)) ?_ ?_ (List.replicate 13 0) 0 (by omega) ⟨by simp, by intro x hx; rw [List.mem_replicate] at hx; omega⟩) rfl
  · rintro s ⟨h1, h2⟩
    refine ev_unfold (fun k => rfl) ?_
    simp only [impl_ranked.l0]
    exact ev_neg (by omega) (l1 s h1)
  · rintro s i hi ⟨h1, h2⟩ ih
    refine ev_unfold (fun k => rfl) ?_
    simp only [impl_ranked.l0]
    rw [w64next i (by omega), rd_at l i hi]
    have hr : 0 ≤ rankOf l[i] ∧ rankOf l[i] ≤ 12 := by
      have := (isCard_iff l[i]).1 (hc _ (List.getElem_mem hi))
      unfold rankOf; rw [if_pos (hc _ (List.getElem_mem hi))]; omega
    refine ev_pos (by omega) (ev_pos (by omega) (ev_eq (impl_RankOf_eq _) (ev_pos (by omega) (ev_pos (by omega) ?_))))
    have hb : 0 ≤ s.getD (rankOf l[i]).toNat 0 ∧ s.getD (rankOf l[i]).toNat 0 ≤ (i : Int) := by
      have hq : (rankOf l[i]).toNat < s.length := by omega
      rw [List.getD_eq_getElem?_getD, List.getElem?_eq_getElem hq]
      exact h2 _ (List.getElem_mem hq)
    rw [w64 _ (by omega)]
    unfold cntF
    refine ih _ ⟨by rw [List.length_set]; exact h1, fun x hx => ?_⟩
    rcases List.mem_or_eq_of_mem_set hx with h | rfl
    · have := h2 x h; omega
    · omega

theorem impl_SuitOf_eq (c : Int) : impl_SuitOf.f c = some (suitOf c) := by
  unfold impl_SuitOf.f suitOf
  rw [impl_IsCard_eq]
  simp only [Option.bind_some]
  by_cases h : isCard c = true
  · have h2 := (isCard_iff c).1 h
    rw [if_pos h, if_pos h, Int.tdiv_eq_ediv_of_nonneg h2.1, w64 _ (by omega)]
  · rw [if_neg h, if_neg h]

theorem impl_EqualInts_ev (a b : List Int) (hl : a.length ≤ 1048576000) : Ev (fun k => impl_EqualInts.f k a b) (decide (a = b)) := by
  simp only [impl_EqualInts.f]
  refine ev_ite (fun h => ?_) (fun h => ev_ret ?_)
  · have he : a.length = b.length := by omega
    refine ev_done (ev_loopN (fun k (_ : Unit) i => impl_EqualInts.l0 k a b (a.length : Int) i) a.length (fun _ i => decide (a.drop i = b.drop i)) (fun _ _ => True) ?_ ?_ () 0 (by omega) trivial) (by simp)
    · rintro s _
      refine ev_unfold (fun k => rfl) ?_
      simp only [impl_EqualInts.l0]
      refine ev_neg (by omega) (ev_ret ?_)
      rw [drop_end, he, drop_end]; rfl
    · rintro s i hi _ ih
      refine ev_unfold (fun k => rfl) ?_
      simp only [impl_EqualInts.l0]
      have hib : i < b.length := by omega
      rw [w64next i (by omega), rd_at a i hi, rd_at b i hib, drop_at a i hi, drop_at b i hib]
      refine ev_pos (by omega) (ev_pos (by omega) (ev_pos (by omega) (ev_pos (by omega) (ev_ite (fun h2 => ev_done (ih () trivial) ?_) (fun h2 => ev_ret ?_)))))
      · rw [h2]; simp only [List.cons.injEq, true_and]
      · exact (decide_eq_false (fun e => h2 (by injection e))).symm
  · exact (decide_eq_false (fun e => h (by rw [e]))).symm

theorem impl_straight_ev (rk : List Int) (hl : rk.length ≤ 1048576000) (hr : ∀ x ∈ rk, 0 ≤ x ∧ x < 13) : Ev (fun k => impl_straight.f k rk) (strI rk) := by
  simp only [impl_straight.f]
  unfold strI
  refine ev_ite (fun h => ?_) (fun h => ?_)
  · rw [if_pos (by omega)]
    have b0 : 0 ≤ rd rk 0 ∧ rd rk 0 < 13 := by rw [show rd rk 0 = rk[0] from rd_at rk 0 (by omega)]; exact hr _ (List.getElem_mem _)
    have b4 : 0 ≤ rd rk 4 ∧ rd rk 4 < 13 := by rw [show rd rk 4 = rk[4] from rd_at rk 4 (by omega)]; exact hr _ (List.getElem_mem _)
    rw [w64 _ (by omega)]
    refine ev_pos (by omega) (ev_pos (by omega) (ev_ite (fun h2 => by rw [if_pos h2]; exact Ev.now _) (fun h2 => ?_)))
    rw [if_neg h2]
    refine Ev.bind (impl_EqualInts_ev rk _ hl) (ev_ite (fun h3 => ?_) (fun h3 => ?_))
    · rw [if_pos (of_decide_eq_true h3)]; exact Ev.now _
    · rw [if_neg (of_decide_eq_false (by simpa using h3))]; exact Ev.now _
  · rw [if_neg (by omega)]; exact Ev.now _

theorem impl_KindOf_ev (l : List Int) (hl : l.length ≤ 1048576000) : Ev (fun k => impl_KindOf.f k l) (kindOf l) := by
  have j4 : ∀ (mn : List Int) (b : Bool), 2 ≤ mn.length → b = (decide (rd mn 0 = 2) && decide (rd mn 1 = 2)) → Ev (fun k => impl_KindOf.j4 k mn b) (if b = true then 2 else if rd mn 0 = 2 then 1 else 0) := by
    intro mn b h2 hb
    refine ev_unfold (fun k => rfl) ?_
    simp only [impl_KindOf.j4]
    refine ev_ite (fun h => by rw [if_pos h]; exact Ev.now _) (fun h => ?_)
    rw [if_neg h]
    refine ev_pos (by omega) (ev_ite (fun h => by rw [if_pos h]; exact Ev.now _) (fun h => by rw [if_neg h]; exact Ev.now _))
  have j3 : ∀ (mn : List Int) (s : Int) (fl b : Bool), 2 ≤ mn.length → Ev (fun k => impl_KindOf.j3 k mn fl (decide (s ≥ 0)) b) (if b = true then 6 else if fl = true then 5 else if s ≥ 0 then 4 else if rd mn 0 = 3 then 3 else if (decide (rd mn 0 = 2) && decide (rd mn 1 = 2)) = true then 2 else if rd mn 0 = 2 then 1 else 0) := by
    intro mn s fl b h2
    refine ev_unfold (fun k => rfl) ?_
    simp only [impl_KindOf.j3]
    refine ev_ite (fun h => by rw [if_pos h]; exact Ev.now _) (fun h => ?_)
    rw [if_neg h]
    refine ev_ite (fun h => by rw [if_pos h]; exact Ev.now _) (fun h => ?_)
    rw [if_neg h]
    refine ev_ite (fun h => by rw [if_pos (of_decide_eq_true h)]; exact Ev.now _) (fun h => ?_)
    rw [if_neg (of_decide_eq_false (by simpa using h))]
    refine ev_pos (by omega) (ev_ite (fun h => by rw [if_pos h]; exact Ev.now _) (fun h => ?_))
    rw [if_neg h]
    refine ev_ite (fun h => ?_) (fun h => ?_)
    · refine ev_pos (by omega) (ev_done (j4 mn _ h2 ?_) ?_)
      · rw [decide_eq_true h, Bool.true_and]; rfl
      · rw [decide_eq_true h, Bool.true_and]; rfl
    · refine ev_done (j4 mn _ h2 ?_) ?_
      · rw [decide_eq_false h]; rfl
      · rw [decide_eq_false h]; rfl
  have j2 : ∀ (mn : List Int) (s : Int) (fl b : Bool), 2 ≤ mn.length → b = (decide (s ≥ 0) && fl) → Ev (fun k => impl_KindOf.j2 k mn fl (decide (s ≥ 0)) b) (kindI s mn fl) := by
    intro mn s fl b h2 hb
    refine ev_unfold (fun k => rfl) ?_
    simp only [impl_KindOf.j2]
    unfold kindI
    rw [← hb]
    refine ev_ite (fun h => by rw [if_pos h]; exact Ev.now _) (fun h => ?_)
    rw [if_neg h]
    refine ev_pos (by omega) (ev_ite (fun h => by rw [if_pos h]; exact Ev.now _) (fun h => ?_))
    rw [if_neg h]
    refine ev_ite (fun h => ?_) (fun h => ?_)
    · refine ev_pos (by omega) (ev_done (j3 mn s fl _ h2) ?_)
      rw [decide_eq_true h, Bool.true_and]; rfl
    · refine ev_done (j3 mn s fl _ h2) ?_
      rw [decide_eq_false h, Bool.false_and]
  have l0 : isHand l = true → l.length = 5 → Ev (fun k => impl_KindOf.l0 k l (rkOf (cnt l)) (mnOf (cnt l)) true l (l.length : Int) 0) (kindN (cnt l) (flushOf l)) := by
    intro hh h5
    have hok := cnt_ok hh h5
    refine ev_done (ev_loop (fun k (b : Bool) i => impl_KindOf.l0 k l (rkOf (cnt l)) (mnOf (cnt l)) b l (l.length : Int) i) l (fun b r => kindN (cnt l) (b && r.all fun c => decide (suitOf c = suitOf (rd l 0)))) (fun _ _ => True) ?_ ?_ true 0 (by omega) trivial) (by simp [flushOf])
    · rintro b _
      refine ev_unfold (fun k => rfl) ?_
      simp only [impl_KindOf.l0]
      refine ev_neg (by omega) (Ev.bind (impl_straight_ev _ (by have := rkOf_length (cnt l); omega) (rkOf_range _)) ?_)
      rw [hok.1]
      have e : kindN (cnt l) (b && ([] : List Int).all fun c => decide (suitOf c = suitOf (rd l 0))) = kindI (strF (cnt l) 10) (mnOf (cnt l)) b := by
        rw [hok.2.1]; simp
      rw [e]
      refine ev_ite (fun h => j2 _ _ _ _ hok.2.2.1 ?_) (fun h => j2 _ _ _ _ hok.2.2.1 ?_)
      · rw [decide_eq_true h, Bool.true_and]
      · rw [decide_eq_false h]; rfl
    · rintro b i hi _ ih
      refine ev_unfold (fun k => rfl) ?_
      simp only [impl_KindOf.l0]
      rw [w64next i (by omega), rd_at l i hi, List.all_cons, ← Bool.and_assoc]
      refine ev_pos (by omega) (ev_pos (by omega) (ev_pos (by omega) (ev_ite (fun h => ?_) (fun h => ?_))))
      · refine ev_eq (impl_SuitOf_eq _) (ev_pos (by omega) (ev_eq (impl_SuitOf_eq _) ?_))
        have e : (suitOf l[i] == suitOf (rd l 0)) = (b && decide (suitOf l[i] = suitOf (rd l 0))) := by rw [h, Bool.true_and]; rfl
        rw [e]; exact ih _ trivial
      · rw [Bool.not_eq_true] at h
        have e : false = (b && decide (suitOf l[i] = suitOf (rd l 0))) := by rw [h]; rfl
        rw [← e]; exact ih _ trivial
  have j0 : ∀ b, (b = false → isHand l = true ∧ l.length = 5) → (b = true → ¬ (isHand l && decide (l.length = 5)) = true) → Ev (fun k => impl_KindOf.j0 k l b) (kindOf l) := by
    intro b h1 h2
    refine ev_unfold (fun k => rfl) ?_
    simp only [impl_KindOf.j0]
    unfold kindOf
    refine ev_ite (fun h => ev_ret ?_) (fun h => ?_)
    · rw [if_neg (h2 h)]
    · rw [Bool.not_eq_true] at h
      obtain ⟨hh, h5⟩ := h1 h
      rw [if_pos (by rw [hh, decide_eq_true h5]; rfl)]
      exact Ev.bind (impl_ranked_ev l ((isHand_iff l).1 hh).1 hl) (l0 hh h5)
  simp only [impl_KindOf.f]
  refine Ev.bind (impl_IsHand_ev l hl) (ev_ite (fun h => ?_) (fun h => ?_))
  · refine j0 _ (fun e => ⟨h, ?_⟩) (fun e => ?_)
    · simp at e; omega
    · simp at e; simp [h]; omega
  · refine j0 _ (fun e => by simp at e) (fun _ => ?_)
    simp [h]

theorem impl_KeyOf_ev (l : List Int) (hl : l.length ≤ 1048576000) : Ev (fun k => impl_KeyOf.f k l) (handKey l) := by
  simp only [impl_KeyOf.f]
  refine Ev.bind (impl_KindOf_ev l hl) ?_
  unfold handKey
  refine ev_ite (fun h => by rw [if_pos h]; exact Ev.now _) (fun h => ?_)
  rw [if_neg h]
  have hb : (isHand l && decide (l.length = 5)) = true := by
    by_cases e : (isHand l && decide (l.length = 5)) = true
    · exact e
    · exfalso; apply h; unfold kindOf; rw [if_neg e]; omega
  rw [Bool.and_eq_true, decide_eq_true_eq] at hb
  have hok := cnt_ok hb.1 hb.2
  have hr := rkOf_length (cnt l)
  refine Ev.bind (impl_ranked_ev l ((isHand_iff l).1 hb.1).1 hl) (Ev.bind (impl_straight_ev _ (by simp only; omega) (rkOf_range _)) ?_)
  simp only
  rw [hok.1]
  refine ev_ite (fun h2 => by rw [if_pos h2]; exact Ev.now _) (fun h2 => ?_)
  rw [if_neg h2]
  simp only [Option.bind_some]
  exact ev_pos (by simp; omega) (Ev.now _)

theorem impl_CompareFive_ev (a b : List Int) (ha : a.length ≤ 1048576000) (hb : b.length ≤ 1048576000) : Ev (fun k => impl_CompareFive.f k a b) (compareFive a b) := by
  have la := handKey_length a
  have lb := handKey_length b
  simp only [impl_CompareFive.f]
  refine Ev.bind (impl_KeyOf_ev a ha) (Ev.bind (impl_KeyOf_ev b hb) ?_)
  unfold compareFive
  generalize handKey a = x at la
  generalize handKey b = y at lb
  have key : ∀ (d i : Nat), i + d = x.length → Ev (fun k => impl_CompareFive.l0 k x y (i : Int)) (cmpL (x.drop i) (y.drop i)) := by
    intro d
    induction d with
    | zero =>
      intro i h
      obtain rfl : i = x.length := by omega
      refine ev_unfold (fun k => rfl) ?_
      simp only [impl_CompareFive.l0]
      refine ev_neg (by omega) (ev_unfold (fun k => rfl) ?_)
      simp only [impl_CompareFive.j1]
      refine ev_neg (by simp) (ev_ret ?_)
      rw [drop_end]; rfl
    | succ d ih =>
      intro i h
      have hi : i < x.length := by omega
      refine ev_unfold (fun k => rfl) ?_
      simp only [impl_CompareFive.l0]
      refine ev_pos (by omega) (ev_unfold (fun k => rfl) ?_)
      simp only [impl_CompareFive.j1]
      rw [drop_at x i hi]
      refine ev_ite (fun h2 => ?_) (fun h2 => ev_ret ?_)
      · have hy : i < y.length := by have := of_decide_eq_true h2; omega
        rw [drop_at y i hy, rd_at x i hi, rd_at y i hy, w64next i (by omega)]
        refine ev_pos (by omega) (ev_pos (by omega) (ev_pos (by omega) ?_))
        unfold cmpL
        refine ev_ite (fun h3 => by rw [if_pos h3]; exact Ev.now _) (fun h3 => ?_)
        rw [if_neg h3]
        refine ev_ite (fun h4 => by rw [if_pos h4]; exact Ev.now _) (fun h4 => ?_)
        rw [if_neg h4]
        exact ih (i + 1) (by omega)
      · have hy : y.length ≤ i := by
          rw [Bool.not_eq_true] at h2
          have := of_decide_eq_false h2; omega
        rw [List.drop_eq_nil_of_le hy]; rfl
  exact key x.length 0 (by omega)

theorem impl_Sorted_ev (l : List Int) (hl : l.length ≤ 1048576000) : Ev (fun k => impl_Sorted.f k l) (sorted l) := by
  simp only [impl_Sorted.f]
  refine ev_done (ev_loop (fun k (s : List Int) i => impl_Sorted.l0 k s l (l.length : Int) i) l (fun s r => sortF s r) (fun s i => s.length = i) ?_ ?_ [] 0 (by omega) rfl) rfl
  · rintro s _
    refine ev_unfold (fun k => rfl) ?_
    simp only [impl_Sorted.l0]
    exact ev_neg (by omega) (ev_ret rfl)
  · rintro s i hi hs ih
    have l1 : ∀ q : Nat, q ≤ s.length → Ev (fun k => impl_Sorted.l1 k s l[i] (q : Int) l (l.length : Int) (i : Int)) (sortF (insAt s (backF s l[i] q) l[i]) (l.drop (i + 1))) := by
      have fin : ∀ q : Nat, q ≤ s.length → Ev (fun k => if s.length < 17592186044416 then ((some (s ++ [0] : List Int)).bind fun y => (if 0 ≤ (q : Int) then (if (q : Int) < (y.length : Int) then (impl_Sorted.l0 k ((Arr.shifted y (q : Int).toNat).set (q : Int).toNat l[i]) l (l.length : Int) (wrap64 ((i : Int) + 1))) else none) else none)) else none) (sortF (insAt s q l[i]) (l.drop (i + 1))) := by
        intro q hq
        refine ev_pos (by omega) ?_
        simp only [Option.bind_some]
        rw [w64next i (by omega), Int.toNat_natCast, shift_set s 0 l[i] q hq]
        refine ev_pos (by omega) (ev_pos (by simp; omega) (ih _ ?_))
        rw [insAt_length _ _ _ hq, hs]
      intro q
      induction q with
      | zero =>
        intro hq
        refine ev_unfold (fun k => rfl) ?_
        simp only [impl_Sorted.l1]
        refine ev_neg (by omega) ?_
        exact fin 0 (by omega)
      | succ q ihq =>
        intro hq
        refine ev_unfold (fun k => rfl) ?_
        simp only [impl_Sorted.l1]
        have e1 : wrap64 (((q + 1 : Nat) : Int) - 1) = (q : Int) := by rw [w64 _ (by omega)]; omega
        rw [e1]
        refine ev_pos (by omega) (ev_pos (by omega) (ev_pos (by omega) ?_))
        unfold backF
        refine ev_ite (fun h => ?_) (fun h => ?_)
        · rw [if_pos h]; exact ihq (by omega)
        · rw [if_neg h]; exact fin (q + 1) hq
    refine ev_unfold (fun k => rfl) ?_
    simp only [impl_Sorted.l0]
    rw [rd_at l i hi]
    exact ev_pos (by omega) (ev_pos (by omega) (ev_pos (by omega) (l1 s.length (Nat.le_refl _))))

theorem impl_isBefore_ev (a b : List Int) (ha : a.length ≤ 1048576000) : Ev (fun k => impl_isBefore.f k a b) (before a b) := by
  have key : ∀ (d i : Nat), i + d = a.length → i ≤ b.length → Ev (fun k => impl_isBefore.l0 k a b (a.length : Int) (i : Int)) (before (a.drop i) (b.drop i)) := by
    intro d
    induction d with
    | zero =>
      intro i hd hb
      refine ev_unfold (fun k => rfl) ?_
      simp only [impl_isBefore.l0]
      refine ev_neg (by omega) (ev_ret ?_)
      have e : a.drop i = [] := List.drop_of_length_le (by omega)
      rw [before_end (.inl e), List.length_drop, List.length_drop]
      exact decide_eq_decide.2 (by omega)
    | succ d ih =>
      intro i hd hb
      refine ev_unfold (fun k => rfl) ?_
      simp only [impl_isBefore.l0]
      refine ev_pos (by omega) (ev_ite (fun h => ?_) (fun h => ?_))
      · have e : b.drop i = [] := List.drop_of_length_le (by omega)
        refine ev_ret ?_
        rw [before_end (.inr e), List.length_drop, List.length_drop]
        exact (decide_eq_false (by omega)).symm
      · have hb2 : i < b.length := by omega
        rw [w64next i (by omega), rd_at a i (by omega), rd_at b i hb2, List.drop_eq_getElem_cons (by omega : i < a.length), List.drop_eq_getElem_cons hb2]
        refine ev_pos (by omega) (ev_pos (by omega) (ev_pos (by omega) ?_))
        unfold before
        refine ev_ite (fun h2 => ?_) (fun h2 => ?_)
        · rw [if_pos h2]; exact ih (i + 1) (by omega) (by omega)
        · rw [if_neg h2]; exact Ev.now _
  simp only [impl_isBefore.f]
  exact key a.length 0 (by omega) (by omega)

theorem impl_BestFive_in (l best : List Int) (m : Nat) (hl : l.length ≤ 7) (hb : best.length ≤ 7) (hm : m ≤ 128) (N : Int) {R : List Int} (h : Ev (fun k => impl_BestFive.l0 k l (keep5 best (pickF (m : Int) 0 l)) N ((m + 1 : Nat) : Int)) R) :
    Ev (fun k => impl_BestFive.l1 k l best (m : Int) [] N (m : Int) l (l.length : Int) 0) R := by
  have key : ∀ (d i : Nat) (s : List Int), i + d = l.length → s.length ≤ i → Ev (fun k => impl_BestFive.l0 k l (keep5 best (s ++ pickF (m : Int) i (l.drop i))) N ((m + 1 : Nat) : Int)) R → Ev (fun k => impl_BestFive.l1 k l best (m : Int) s N (m : Int) l (l.length : Int) (i : Int)) R := by
    intro d
    induction d with
    | zero =>
      intro i s hd hs h
      refine ev_unfold (fun k => rfl) ?_
      simp only [impl_BestFive.l1]
      rw [List.drop_of_length_le (by omega), show pickF (m : Int) i [] = [] from rfl, List.append_nil] at h
      unfold keep5 at h
      rw [w64next m (by omega)]
      refine ev_neg (by omega) (ev_ite (fun h1 => ?_) (fun h1 => ?_))
      · rw [if_pos (by omega)] at h
        refine ev_ite (fun h2 => ?_) (fun h2 => Ev.bind (impl_CompareFive_ev s best (by omega) (by omega)) ?_)
        · rw [if_pos (by omega)] at h; exact h
        · rw [if_neg (by omega)] at h
          refine ev_ite (fun h3 => ?_) (fun h3 => Ev.bind (impl_CompareFive_ev s best (by omega) (by omega)) ?_)
          · rw [if_pos h3] at h; exact h
          · rw [if_neg h3] at h
            refine ev_ite (fun h4 => ?_) (fun h4 => ?_)
            · rw [if_pos h4] at h
              refine Ev.bind (impl_isBefore_ev s best (by omega)) (ev_ite (fun h5 => ?_) (fun h5 => ?_))
              · rw [if_pos h5] at h; exact h
              · rw [if_neg h5] at h; exact h
            · rw [if_neg h4] at h; exact h
      · rw [if_neg (by omega)] at h; exact h
    | succ d ih =>
      intro i s hd hs h
      refine ev_unfold (fun k => rfl) ?_
      simp only [impl_BestFive.l1]
      rw [w64next i (by omega), rd_at l i (by omega)]
      rw [List.drop_eq_getElem_cons (by omega : i < l.length)] at h
      unfold pickF at h
      refine ev_pos (by omega) (ev_pos (by omega) (ev_pos (by omega) (ev_ite (fun h1 => ev_pos (by omega) (ih (i + 1) _ (by omega) (by simp; omega) ?_)) (fun h1 => ih (i + 1) _ (by omega) (by omega) ?_))))
      · rw [if_pos (show bitOf (m : Int) i = true from decide_eq_true h1)] at h
        rw [List.append_assoc]; exact h
      · rw [if_neg (show ¬ bitOf (m : Int) i = true from fun z => h1 (of_decide_eq_true z))] at h
        exact h
  exact key l.length 0 [] (by omega) (Nat.le_refl _) h
theorem impl_BestFive_ev (l : List Int) (hl : l.length ≤ 1048576000) : Ev (fun k => impl_BestFive.f k l) (bestFive l) := by
  have loop : ∀ (l : List Int) (h1 : 5 ≤ l.length) (h2 : l.length ≤ 7) (d m : Nat) (best : List Int), m + d = masks l → best.length ≤ 7 → Ev (fun k => impl_BestFive.l0 k l best (masks l : Int) (m : Int)) (bestFrom l d m best) := by
    intro l h1 h2 d
    obtain ⟨e, hm⟩ := masks_ok l h1 h2
    induction d with
    | zero =>
      intro m best hd hb
      refine ev_unfold (fun k => rfl) ?_
      simp only [impl_BestFive.l0]
      exact ev_neg (by omega) (Ev.now _)
    | succ d ih =>
      intro m best hd hb
      refine ev_unfold (fun k => rfl) ?_
      simp only [impl_BestFive.l0]
      have hp := pickF_length (m : Int) l 0
      exact ev_pos (by omega) (impl_BestFive_in l best m h2 hb (by omega) (masks l : Int) (ih (m + 1) _ (by omega) (keep5_length hb (by omega))))
  have j0 : ∀ b : Bool, b = !(isHand l && inR (l.length : Int) 5 7) → Ev (fun k => impl_BestFive.j0 k l b) (bestFive l) := by
    intro b hb
    refine ev_unfold (fun k => rfl) ?_
    simp only [impl_BestFive.j0]
    unfold bestFive
    refine ev_ite (fun h => ?_) (fun h => ?_)
    · rw [if_neg]
      · exact Ev.now _
      · rintro ⟨g1, g2⟩
        rw [hb, g1, g2] at h
        cases h
    · have hg : isHand l = true ∧ inR (l.length : Int) 5 7 = true := by
        cases h1 : isHand l <;> cases h2 : inR (l.length : Int) 5 7 <;> simp [hb, h1, h2] at h ⊢
      have hr := (inR_iff _ _ _).1 hg.2
      rw [if_pos hg]
      have sl := sorted_length l
      refine Ev.bind (impl_Sorted_ev l hl) ?_
      rw [(masks_ok (sorted l) (by omega) (by omega)).1]
      exact (loop (sorted l) (by omega) (by omega) (masks (sorted l)) 0 [] (by omega) (Nat.zero_le _))
  simp only [impl_BestFive.f, Option.bind_some, impl_InRange_eq]
  refine Ev.bind (impl_IsHand_ev l hl) (ev_ite (fun h => j0 _ (by rw [h]; rfl)) (fun h => j0 _ ?_))
  have : isHand l = false := by simpa using h
  rw [this]; rfl

theorem laws_contains_ev (l : List Int) (c : Int) (hl : l.length ≤ 1048576000) : Ev (fun k => laws_contains.f k l c) (decide (c ∈ l)) := by
  simp only [laws_contains.f]
  refine ev_done (ev_loop (fun k (_ : Unit) i => laws_contains.l0 k l c i) l (fun _ r => decide (c ∈ r)) (fun _ _ => True) ?_ ?_ () 0 (by omega) trivial) (by simp)
  · rintro s _
    refine ev_unfold (fun k => rfl) ?_
    simp only [laws_contains.l0]
    exact ev_neg (by omega) (ev_ret (by simp))
  · rintro s i hi _ ih
    refine ev_unfold (fun k => rfl) ?_
    simp only [laws_contains.l0]
    rw [w64next i (by omega), rd_at l i hi]
    refine ev_pos (by omega) (ev_pos (by omega) (ev_ite (fun h => ev_ret ?_) (fun h => ev_done (ih () trivial) ?_)))
    · rw [h]; simp
    · refine decide_eq_decide.2 ⟨fun h2 => List.mem_cons_of_mem _ h2, fun h2 => (List.mem_cons.1 h2).resolve_left (fun e => h e.symm)⟩

theorem laws_ascends_ev (l : List Int) (hl : l.length ≤ 1048576000) : Ev (fun k => laws_ascends.f k l) (ascB l) := by
  have key : ∀ (d i : Nat), 1 ≤ i → l.length ≤ i + d → Ev (fun k => laws_ascends.l0 k l (i : Int)) (ascFrom l i) := by
    intro d
    induction d with
    | zero =>
      intro i h1 hd
      refine ev_unfold (fun k => rfl) ?_
      simp only [laws_ascends.l0]
      refine ev_neg (by omega) (ev_ret ?_)
      exact (ascFrom_end (by omega)).symm
    | succ d ih =>
      intro i h1 hd
      refine ev_unfold (fun k => rfl) ?_
      simp only [laws_ascends.l0]
      refine ev_ite (fun h => ?_) (fun h => ev_ret (ascFrom_end (by omega)).symm)
      have hi : i < l.length := by omega
      have e : wrap64 ((i : Int) - 1) = ((i - 1 : Nat) : Int) := by rw [w64 _ (by omega)]; omega
      rw [e, w64next i (by omega), rd_at l i hi, rd_at l (i - 1) (by omega)]
      refine ev_pos (by omega) (ev_pos (by omega) (ev_pos (by omega) (ev_ite (fun h2 => ev_ret ?_) (fun h2 => ?_))))
      · rw [ascFrom_step hi (by omega)]
        rw [decide_eq_false (by omega)]; rfl
      · rw [ascFrom_step hi (by omega), decide_eq_true (by omega), Bool.true_and]
        exact ih (i + 1) (by omega) (by omega)
  simp only [laws_ascends.f]
  exact key l.length 1 (by omega) (by omega)

theorem spec_l5Any_ev (b : List Int) (i h : Int) (hc : Cur b i) : EvP (fun k => spec_l5Any.f k b i h) (fun r => r.1.length ≤ 40 ∧ Cur b r.2.1) := by
  simp only [spec_l5Any.f]
  refine EvP.bind (spec_l1Below_ok b i h 9 hc (by omega)).ev (fun r hr => ?_)
  have h1 := hr.2.1 (by omega)
  refine EvP.bind (spec_l5Some_ev b _ _ r.1 hr.2.2.2 (by omega)) (fun s hs => EvP.ite (fun hp => ?_) (fun _ => EvP.now hs))
  refine EvP.bind (spec_l1Once_ok b _ _ 10 hs.2 (by omega)).ev (fun t ht => EvP.ite (fun _ => ?_) (fun _ => EvP.now ⟨hs.1, ht⟩))
  have h2 := hs.1
  rw [w64 _ (by omega)]
  refine EvP.pos (by omega) (EvP.pos (by omega) (EvP.bind (spec_l1Int_ok b _ _ [_, 52, -1] ht (by simp) (by simp)).ev (fun u hu => EvP.pos (by omega) (EvP.now ⟨by simp only [List.length_set]; omega, hu.2⟩))))

theorem kindName_yes (n : Int) (h : 0 ≤ n ∧ n ≤ 8) : ∃ s, impl_KindName.f n = some s ∧ (s.toList == ([] : List UInt8)) = false := by
  unfold impl_KindName.f
  rw [impl_InRange_eq, (inR_iff _ _ _).2 h]
  simp only [Option.bind_some, if_true]
  rw [if_pos h.1, if_pos (by simp; omega)]
  refine ⟨_, rfl, ?_⟩
  have : n = 0 ∨ n = 1 ∨ n = 2 ∨ n = 3 ∨ n = 4 ∨ n = 5 ∨ n = 6 ∨ n = 7 ∨ n = 8 := by omega
  rcases this with rfl | rfl | rfl | rfl | rfl | rfl | rfl | rfl | rfl <;> (rw [ByteArray.toList_eq]; rfl)
theorem kindName_no (n : Int) (h : ¬ (0 ≤ n ∧ n ≤ 8)) : impl_KindName.f n = some ⟨#[]⟩ := by
  unfold impl_KindName.f
  rw [impl_InRange_eq, Option.bind_some, if_neg (fun z => h ((inR_iff _ _ _).1 z))]
theorem empty_nil : (((⟨#[]⟩ : ByteArray).toList) == ([] : List UInt8)) = true := by rw [ByteArray.toList_eq]; rfl
theorem kind_five {l : List Int} (h : 0 ≤ kindOf l) : Five l := by
  unfold kindOf at h
  split at h
  · rename_i c
    rw [Bool.and_eq_true, decide_eq_true_eq] at c
    exact c
  · omega
theorem free_five (w : List Int) (x : Int) (h0 : 0 ≤ x) (h1 : x < 52) (hw : w.length < 5) : ∃ j : Nat, j < 5 ∧ (x + 5 * (j : Int)).tmod 52 ∉ w := by
  refine Classical.byContradiction (fun hn => ?_)
  have hall : ∀ j : Nat, j < 5 → (x + 5 * (j : Int)).tmod 52 ∈ w := fun j hj => Classical.byContradiction (fun g => hn ⟨j, hj, g⟩)
  have tm : ∀ j : Int, 0 ≤ j → (x + 5 * j).tmod 52 = (x + 5 * j) % 52 := fun j hj => Int.tmod_eq_emod_of_nonneg (by omega)
  have hp := pigeon [x % 52, (x + 5) % 52, (x + 10) % 52, (x + 15) % 52, (x + 20) % 52] w (by
    simp only [List.nodup_cons, List.mem_cons, List.not_mem_nil, or_false, not_or, List.nodup_nil, not_false_eq_true, and_true]
    refine ⟨⟨?_, ?_, ?_, ?_⟩, ⟨?_, ?_, ?_⟩, ⟨?_, ?_⟩, ?_⟩ <;> omega) (by
    intro y hy
    simp only [List.mem_cons, List.not_mem_nil, or_false] at hy
    have g0 := hall 0 (by omega)
    have g1 := hall 1 (by omega)
    have g2 := hall 2 (by omega)
    have g3 := hall 3 (by omega)
    have g4 := hall 4 (by omega)
    rw [tm _ (by omega)] at g0 g1 g2 g3 g4
    rcases hy with rfl | rfl | rfl | rfl | rfl
    · simpa using g0
    · simpa using g1
    · simpa using g2
    · simpa using g3
    · simpa using g4)
  simp only [List.length_cons, List.length_nil] at hp
  omega
theorem spec_l14Five_ev (b : List Int) (i h : Int) (hc : Cur b i) : EvP (fun k => spec_l14Five.f k b i h) (fun r => r.1.length ≤ 40 ∧ Cur b r.2.1) := by
  have done : ∀ (x : Int) (w : List Int) (s i h : Int), w.length = 5 → Cur b i → EvP (fun k => spec_l14Five.l0 k x w s b i h) (fun r => r.1.length ≤ 40 ∧ Cur b r.2.1) := by
    intro x w s i h hw hi
    refine EvP.unfold (fun k => rfl) ?_
    simp only [spec_l14Five.l0]
    refine EvP.neg (by omega) (EvP.bind (spec_l1Once_ok b i h 3 hi (by omega)).ev (fun u hu => EvP.ite (fun _ => ?_) (fun _ => EvP.now ⟨by simp only; omega, hu⟩)))
    exact EvP.bind (spec_l5Some_ev b _ _ 5 hu (by omega)) (fun v hv => EvP.now hv)
  have find : ∀ (w : List Int) (s i h : Int) (hn : ∀ x', 0 ≤ x' → x' < 52 → EvP (fun k => spec_l14Five.l0 k x' (w ++ [x']) s b i h) (fun r => r.1.length ≤ 40 ∧ Cur b r.2.1)) (hw : w.length < 5),
      ∀ (j : Nat) (x : Int), j < 5 → 0 ≤ x → x < 52 → (x + 5 * (j : Int)).tmod 52 ∉ w → EvP (fun k => spec_l14Five.l1 k x w s b i h) (fun r => r.1.length ≤ 40 ∧ Cur b r.2.1) := by
    intro w s i h hn hw j
    induction j with
    | zero =>
      intro x _ h0 h1 hf
      have e : (x + 5 * ((0 : Nat) : Int)).tmod 52 = x := by rw [Int.tmod_eq_emod_of_nonneg (by omega)]; omega
      rw [e] at hf
      refine EvP.unfold (fun k => rfl) ?_
      simp only [spec_l14Five.l1]
      refine EvP.bind (EvP.of (P := fun a => a = hasCard w x) (spec_HasCard_ev w x (by omega)) rfl) (fun a ha => ?_)
      subst ha
      exact EvP.neg (by unfold hasCard; rw [decide_eq_false hf]; simp) (EvP.pos (by omega) (hn x h0 h1))
    | succ j ih =>
      intro x hj h0 h1 hf
      refine EvP.unfold (fun k => rfl) ?_
      simp only [spec_l14Five.l1]
      refine EvP.bind (EvP.of (P := fun a => a = hasCard w x) (spec_HasCard_ev w x (by omega)) rfl) (fun a ha => EvP.ite (fun _ => ?_) (fun _ => EvP.pos (by omega) (hn x h0 h1)))
      rw [w64 (x + 5) (by omega)]
      have e : (x + 5).tmod 52 = (x + 5) % 52 := Int.tmod_eq_emod_of_nonneg (by omega)
      rw [e]
      refine ih _ (by omega) (by omega) (by omega) ?_
      have e2 : ((x + 5) % 52 + 5 * (j : Int)).tmod 52 = (x + 5 * ((j + 1 : Nat) : Int)).tmod 52 := by
        rw [Int.tmod_eq_emod_of_nonneg (by omega), Int.tmod_eq_emod_of_nonneg (by omega)]
        omega
      rw [e2]; exact hf
  have loop : ∀ (d : Nat) (w : List Int) (x s i h : Int), w.length + d = 5 → 0 ≤ x → x < 52 → 0 ≤ s → s ≤ 100 → Cur b i → EvP (fun k => spec_l14Five.l0 k x w s b i h) (fun r => r.1.length ≤ 40 ∧ Cur b r.2.1) := by
    intro d
    induction d with
    | zero => intro w x s i h hw _ _ _ _ hi; exact done x w s i h (by omega) hi
    | succ d ih =>
      intro w x s i h hw h0 h1 hs hs2 hi
      refine EvP.unfold (fun k => rfl) ?_
      simp only [spec_l14Five.l0]
      rw [w64 (x + s) (by omega)]
      have hq := tmod_range (x := x + s) (n := 52) (by omega) (by omega)
      obtain ⟨j, hj, hf⟩ := free_five w _ hq.1 hq.2 (by omega)
      exact EvP.pos (by omega) (find w s i h (fun x' g0 g1 => ih _ x' s i h (by simp; omega) g0 g1 hs hs2 hi) (by omega) j _ hj hq.1 hq.2 hf)
  simp only [spec_l14Five.f]
  refine EvP.bind (spec_l1Below_ok b i h 52 hc (by omega)).ev (fun u hu => ?_)
  have hu1 := hu.2.1 (by omega)
  have hu0 := hu.1
  refine EvP.bind (spec_l1Int_ok b _ _ _ hu.2.2.2 (by simp) (by simp)).ev (fun v hv => ?_)
  have hs : 0 ≤ v.1 ∧ v.1 ≤ 100 := by
    have := hv.1
    simp only [List.mem_cons, List.not_mem_nil, or_false] at this
    omega
  exact loop 4 [u.1] u.1 v.1 _ _ (by simp) hu0 hu1 hs.1 hs.2 hv.2
theorem spec_DrawCompareFive_ev (l : List Int) (hl : l.length ≤ 140737488351232) : EvP (fun k => spec_DrawCompareFive.f k l) (fun r => r.1.length ≤ 40 ∧ r.2.length ≤ 40) := by
  simp only [spec_DrawCompareFive.f]
  refine EvP.bind (spec_l1New_ev l hl) (fun c hc => ?_)
  have hc2 := hc.2
  rw [← hc.1] at hc2
  exact EvP.bind (spec_l14Five_ev c.1 _ _ hc2) (fun u hu => EvP.bind (spec_l14Five_ev c.1 _ _ hu.2) (fun v hv => EvP.now ⟨hu.1, hv.1⟩))
theorem spec_DrawBestFive_ev (l : List Int) (hl : l.length ≤ 140737488351232) : EvP (fun k => spec_DrawBestFive.f k l) (fun r => r.length ≤ 60) := by
  simp only [spec_DrawBestFive.f]
  refine EvP.bind (spec_l1New_ev l hl) (fun c hc => ?_)
  have hc2 := hc.2
  rw [← hc.1] at hc2
  have loop : ∀ (d : Nat) (w : List Int) (n i h : Int), (d : Int) = max 0 n → w.length + d ≤ 60 → Cur c.1 i → EvP (fun k => spec_DrawBestFive.l0 k w n c.1 i h) (fun r => r.length ≤ 60) := by
    intro d
    induction d with
    | zero =>
      intro w n i h hd hw hi
      refine EvP.unfold (fun k => rfl) ?_
      simp only [spec_DrawBestFive.l0]
      exact EvP.neg (by omega) (EvP.now (by omega))
    | succ d ih =>
      intro w n i h hd hw hi
      refine EvP.unfold (fun k => rfl) ?_
      simp only [spec_DrawBestFive.l0]
      rw [w64 (n - 1) (by omega)]
      refine EvP.pos (by omega) (EvP.bind (spec_l1Below_ok c.1 i h 52 hi (by omega)).ev (fun u hu => EvP.bind (EvP.of (P := fun _ => True) (spec_HasCard_ev w u.1 (by omega)) trivial) (fun a _ => EvP.ite (fun _ => ?_) (fun _ => EvP.pos (by omega) ?_))))
      · exact ih _ _ _ _ (by omega) (by omega) hu.2.2.2
      · exact ih _ _ _ _ (by omega) (by simp; omega) hu.2.2.2
  refine EvP.bind (spec_l14Five_ev c.1 _ _ hc2) (fun u hu => EvP.bind (spec_l1Below_ok c.1 _ _ 4 hu.2 (by omega)).ev (fun v hv => ?_))
  have := hv.2.1 (by omega)
  have h0 := hv.1
  have hu1 := hu.1
  exact loop v.1.toNat u.1 v.1 _ _ (by omega) (by omega) hv.2.2.2
theorem spec_DrawKeyOf_ev (l : List Int) (hl : l.length ≤ 140737488351232) : EvP (fun k => spec_DrawKeyOf.f k l) (fun r => r.length ≤ 40) := by
  simp only [spec_DrawKeyOf.f]
  suffices hs : EvP (fun k => spec_DrawKindOf.f k l) (fun r => r.length ≤ 40) from EvP.bind hs (fun r hr => EvP.now hr)
  simp only [spec_DrawKindOf.f]
  refine EvP.bind (spec_l1New_ev l hl) (fun c hc => ?_)
  have hc2 := hc.2
  rw [← hc.1] at hc2
  refine EvP.bind (spec_l1Once_ok c.1 _ _ 9 hc2 (by omega)).ev (fun u hu => EvP.ite (fun _ => ?_) (fun _ => ?_))
  · exact EvP.bind (spec_l5Any_ev c.1 _ _ hu) (fun v hv => EvP.now hv.1)
  · exact EvP.bind (spec_l14Five_ev c.1 _ _ hu) (fun v hv => EvP.now hv.1)
theorem spec_DrawKindName_ev (l : List Int) (hl : l.length ≤ 140737488351232) : EvP (fun k => spec_DrawKindName.f k l) (fun r => True) := by
  simp only [spec_DrawKindName.f]
  refine EvP.bind (spec_l1New_ev l hl) (fun c hc => ?_)
  have hc2 := hc.2
  rw [← hc.1] at hc2
  exact EvP.bind (spec_l1Below_ok c.1 _ _ 11 hc2 (by omega)).ev (fun u hu => EvP.now trivial)
theorem laws_containsY_ev (l : List Int) (c : Int) (hl : l.length ≤ 1048576) (h : c ∈ l) : Ev (fun k => laws_contains.f k l c) true := by
  simp only [laws_contains.f]
  have key : ∀ (d i : Nat), i + d = l.length → c ∈ l.drop i → Ev (fun k => laws_contains.l0 k l c (i : Int)) true := by
    intro d
    induction d with
    | zero =>
      intro i hd hm
      rw [List.drop_of_length_le (by omega)] at hm
      cases hm
    | succ d ih =>
      intro i hd hm
      refine ev_unfold (fun k => rfl) ?_
      simp only [laws_contains.l0]
      rw [w64next i (by omega), rd_at l i (by omega)]
      refine ev_pos (by omega) (ev_pos (by omega) (ev_ite (fun _ => Ev.now _) (fun h2 => ih (i + 1) (by omega) ?_)))
      rw [List.drop_eq_getElem_cons (by omega)] at hm
      rcases List.mem_cons.1 hm with e | e
      · exact absurd e.symm h2
      · exact e
  exact key l.length 0 (by omega) (by simpa using h)
theorem laws_within_ev (a l : List Int) (al : a.length ≤ 1048576) (hl : l.length ≤ 1048576) (h : ∀ c ∈ a, c ∈ l) : Ev (fun k => laws_within.f k a l) true := by
  simp only [laws_within.f]
  have key : ∀ (d i : Nat), i + d = a.length → Ev (fun k => laws_within.l0 k a l (i : Int)) true := by
    intro d
    induction d with
    | zero =>
      intro i hd
      refine ev_unfold (fun k => rfl) ?_
      simp only [laws_within.l0]
      exact ev_neg (by omega) (Ev.now _)
    | succ d ih =>
      intro i hd
      refine ev_unfold (fun k => rfl) ?_
      simp only [laws_within.l0]
      rw [w64next i (by omega), rd_at a i (by omega)]
      exact ev_pos (by omega) (ev_pos (by omega) (Ev.bind (laws_containsY_ev l _ hl (h _ (List.getElem_mem _))) (ev_pos rfl (ih (i + 1) (by omega)))))
  exact key a.length 0 (by omega)
theorem FnFives : laws_FnFives.Pure := by
  intro b hb _ _
  refine Ev.rounds ?_
  simp only [laws_FnFives.f, laws_big_eq, Option.bind_some]
  refine ev_ite (fun _ => Ev.now _) (fun h => ?_)
  simp only [decide_eq_true_eq] at h
  have j3 : ∀ x : Bool, x = false → Ev (fun k => laws_FnFives.j3 k b x) true := by
    rintro x rfl
    refine ev_unfold (fun k => rfl) ?_
    simp only [laws_FnFives.j3]
    refine ev_neg (by simp) (EvP.use (spec_DrawKindName_ev b (by omega)) (fun n _ => ?_))
    by_cases hn : 0 ≤ n ∧ n ≤ 8
    · obtain ⟨s, e, g⟩ := kindName_yes n hn
      refine ev_eq e (ev_neg (by omega) (ev_ret ?_))
      rw [g, decide_eq_false (by omega)]; rfl
    · refine ev_eq (kindName_no n hn) (ev_ite (fun h1 => ev_ret ?_) (fun h1 => ev_ret ?_))
      · rw [empty_nil]; rfl
      · rw [empty_nil, decide_eq_true (by omega)]; rfl
  have j2 : Ev (fun k => laws_FnFives.j2 k b) true := by
    refine ev_unfold (fun k => rfl) ?_
    simp only [laws_FnFives.j2]
    refine EvP.use (spec_DrawKeyOf_ev b (by omega)) (fun y hy => Ev.bind (impl_KeyOf_ev y (by omega)) (Ev.bind (impl_KindOf_ev y (by omega)) ?_))
    by_cases hk : 0 ≤ kindOf y
    · obtain ⟨r, e, _, g0, g8⟩ := key_good (kind_five hk)
      have hlen : ((handKey y).length : Int) > 0 := by rw [e]; simp only [List.length_cons]; omega
      have hrd : rd (handKey y) 0 = kindOf y := by rw [e]; rfl
      obtain ⟨s, es, gs⟩ := kindName_yes (kindOf y) ⟨g0, g8⟩
      refine ev_neg (by rw [decide_eq_true hlen, decide_eq_true (show kindOf y ≥ 0 from hk)]; simp) (ev_pos hlen (ev_pos hlen (Ev.bind (impl_KindOf_ev y (by omega)) (ev_pos hrd ?_))))
      rw [hrd]
      exact ev_eq es (j3 _ gs)
    · have e : handKey y = [] := by unfold handKey; rw [if_pos (by omega)]
      have hlen : ¬ ((handKey y).length : Int) > 0 := by rw [e]; simp
      exact ev_neg (by rw [decide_eq_false hlen, decide_eq_false (show ¬ kindOf y ≥ 0 from hk)]; simp) (ev_neg hlen (j3 _ rfl))
  have j0 : ∀ x : Bool, x = false → Ev (fun k => laws_FnFives.j0 k b x) true := by
    rintro x rfl
    refine ev_unfold (fun k => rfl) ?_
    simp only [laws_FnFives.j0]
    refine ev_neg (by simp) (EvP.use (spec_DrawBestFive_ev b (by omega)) (fun y hy => Ev.bind (impl_BestFive_ev y (by omega)) (Ev.bind (impl_IsHand_ev y (by omega)) ?_)))
    have no : ¬ (isHand y = true ∧ 5 ≤ y.length ∧ y.length ≤ 7) → Ev (fun k => laws_FnFives.j1 k b y (bestFive y) false) true := by
      intro hn
      have e : bestFive y = [] := by
        unfold bestFive
        rw [if_neg]
        rintro ⟨g1, g2⟩
        have := (inR_iff _ _ _).1 g2
        exact hn ⟨g1, by omega, by omega⟩
      refine ev_unfold (fun k => rfl) ?_
      simp only [laws_FnFives.j1]
      exact ev_neg (by simp) (ev_pos (by rw [e]; rfl) j2)
    refine ev_ite (fun h1 => ev_ite (fun h2 => ?_) (fun h2 => no (fun z => h2 (by omega)))) (fun h1 => no (fun z => h1 z.1))
    by_cases h3 : (y.length : Int) ≤ 7
    · rw [decide_eq_true h3]
      have m1 := bestFive_max h1 (by omega) (by omega) (List.take_sublist 5 y) (by rw [List.length_take]; omega)
      have m2 := bestFive_max h1 (by omega) (by omega) (List.drop_sublist (y.length - 5) y) (by rw [List.length_drop]; omega)
      have hb5 := m1.1
      have ew : wrap64 ((y.length : Int) - 5) = ((y.length - 5 : Nat) : Int) := by rw [w64 _ (by omega)]; omega
      refine ev_unfold (fun k => rfl) ?_
      simp only [laws_FnFives.j1]
      rw [ew, Int.toNat_natCast]
      refine ev_pos (by first | rfl | trivial) (ev_pos (by omega) (Ev.bind (laws_within_ev _ _ (by omega) (by omega) m1.2.1) (ev_pos rfl (Ev.bind (laws_ascends_ev _ (by omega)) (ev_pos (ascB_iff.2 m1.2.2.1) (ev_pos (by omega) ?_))))))
      refine Ev.bind (impl_CompareFive_ev _ _ (by rw [List.length_take]; omega) (by omega)) (ev_neg (by have := m1.2.2.2; omega) (ev_pos (by omega) (ev_pos (by omega) ?_)))
      exact Ev.bind (impl_CompareFive_ev _ _ (by rw [List.length_drop]; omega) (by omega)) (ev_neg (by have := m2.2.2.2; omega) j2)
    · rw [decide_eq_false h3]
      exact no (fun z => h3 (by omega))
  refine EvP.use (spec_DrawCompareFive_ev b (by omega)) (fun r hr => ?_)
  obtain ⟨h1, h2⟩ := hr
  have hng := compare_neg r.1 r.2
  have hrg := cmpL_range (handKey r.1) (handKey r.2)
  have hrg2 : -1 ≤ compareFive r.1 r.2 ∧ compareFive r.1 r.2 ≤ 1 := hrg
  refine Ev.bind (impl_CompareFive_ev r.1 r.2 (by omega) (by omega)) (Ev.bind (impl_CompareFive_ev r.2 r.1 (by omega) (by omega)) (ev_pos ?_ ?_))
  · rw [hng, w64 _ (by omega)]; omega
  refine Ev.bind (impl_CompareFive_ev r.1 r.1 (by omega) (by omega)) (ev_pos (compare_self _) (Ev.bind (impl_KindOf_ev r.1 (by omega)) (Ev.bind (impl_KindOf_ev r.2 (by omega)) (ev_ite (fun h3 => ?_) (fun h3 => j0 _ rfl)))))
  refine Ev.bind (impl_KindOf_ev r.2 (by omega)) (ev_ite (fun h4 => Ev.bind (impl_CompareFive_ev r.1 r.2 (by omega) (by omega)) (j0 _ ?_)) (fun h4 => j0 _ rfl))
  obtain ⟨p, ep, _⟩ := key_good (kind_five (l := r.1) (by omega))
  obtain ⟨q, eq, _⟩ := key_good (kind_five (l := r.2) (by omega))
  have : compareFive r.1 r.2 = 1 := by
    unfold compareFive
    rw [ep, eq, cmpL_cons, if_pos h3]
  rw [this]; rfl

end Go.Proofs.Ytecjbogconeilaa.Pure
