/- In the given program FnDeals answers true for every input, by what its functions compute; no condition. -/
import Derived.Test.YtcegnlconafikaaQFnDealsx5
import Derived.Test.YtcegnlconafikaaLib
import Derived.Test.YtcegnlconafikaaCards
import Derived.Test.YtcegnlconafikaaCards2
import Derived.Test.YtcegnlconafikaaCalls
import Derived.Test.YtcegnlconafikaaHands
import Derived.Test.YtcegnlconafikaaSheets
import Derived.Test.YtcegnlconafikaaDraw
import Derived.Test.YtcegnlconafikaaDeal
namespace Go.Proofs.Ytcegnlconafikaa.Pure
open Go.RowKit Go.Proofs.Ytcegnlconafikaa.QFnDeals Go.Proofs.YtcegnlconafikaaW.PrintWords Go.Proofs.YtcegnlconafikaaW.PrintLast Go.Proofs.YtcegnlconafikaaW.PrintMore Go.Proofs.Ytcegnlconafikaa.Lib
set_option linter.unusedVariables false
set_option linter.unusedSimpArgs false

theorem rdss_at (l : List (List Int)) (i : Nat) (h : i < l.length) : rd_L2 l (i : Int) = l[i] := by
  unfold rd_L2
  rw [Int.toNat_natCast, List.getD_eq_getElem?_getD, List.getElem?_eq_getElem h]
  rfl

theorem laws_big_eq (l : List Int) : laws_big.f l = some (decide ((l.length : Int) > 1048576)) := rfl

theorem spec_l1New_ev (l : List Int) (hl : l.length ≤ 140737488351232) : EvP (fun k => spec_l1New.f k l) (fun r => r.1 = l ∧ Cur l r.2.1) := by
  have key : ∀ (d i : Nat) (h : Int), i + d = l.length → EvP (fun k => spec_l1New.l0 k l h (i : Int)) (fun r => r.1 = l ∧ Cur l r.2.1) := by
    intro d
    induction d with
    | zero =>
      intro i h hd
      refine EvP.unfold (fun k => rfl) ?_
      simp only [spec_l1New.l0]
      exact EvP.neg (by omega) (EvP.now ⟨rfl, by unfold Cur; simp only; omega⟩)
    | succ d ih =>
      intro i h hd
      refine EvP.unfold (fun k => rfl) ?_
      simp only [spec_l1New.l0]
      refine EvP.pos (by omega) (EvP.ite (fun _ => EvP.pos (by omega) ?_) (fun _ => EvP.now ⟨rfl, by unfold Cur; simp only; omega⟩))
      rw [w64next i (by omega)]
      exact ih (i + 1) _ (by omega)
  simp only [spec_l1New.f]
  exact key l.length 0 _ (by omega)

theorem spec_HasCard_ev (l : List Int) (c : Int) (hl : l.length ≤ 1048576000) : Ev (fun k => spec_HasCard.f k l c) (hasCard l c) := by
  simp only [spec_HasCard.f]
  refine ev_done (ev_loop (fun k (_ : Unit) i => spec_HasCard.l0 k l c i) l (fun _ r => hasCard r c) (fun _ _ => True) ?_ ?_ () 0 (by omega) trivial) rfl
  · rintro s _
    refine ev_unfold (fun k => rfl) ?_
    simp only [spec_HasCard.l0]
    exact ev_neg (by omega) (ev_ret (by simp [hasCard]))
  · rintro s i hi _ ih
    refine ev_unfold (fun k => rfl) ?_
    simp only [spec_HasCard.l0]
    rw [w64next i (by omega), rd_at l i hi]
    refine ev_pos (by omega) (ev_pos (by omega) (ev_ite (fun h => ev_ret ?_) (fun h => ev_done (ih () trivial) ?_)))
    · simp [hasCard, h]
    · have h2 : ¬ c = l[i] := fun e => h e.symm
      simp only [hasCard, List.mem_cons]
      exact decide_eq_decide.2 ⟨fun h => .inr h, fun h => h.resolve_left h2⟩

theorem spec_l1Byte_ok (b : List Int) (i h : Int) (hc : Cur b i) : OkP (spec_l1Byte.f b i h) (fun r => 0 ≤ r.1 ∧ r.1 ≤ 255 ∧ Cur b r.2.1) := by
  obtain ⟨h0, h1, h2⟩ := hc
  unfold spec_l1Byte.f
  refine OkP.ite (fun h3 => OkP.pos h0 (OkP.now ?_)) (fun h3 => OkP.now ?_)
  · have := and_mask (wrap64 ((Go.bits .and .i64 (Go.bits .xor .i64 ((wrap64 ((wrap64 (h * 6364136223846793005)) + 1442695040888963407)) / 8589934592) ((wrap64 ((wrap64 (h * 6364136223846793005)) + 1442695040888963407)) / 140737488355328)) 255) + (wrap64 (rd b i)))) 255 (by omega)
    refine ⟨this.1, this.2, ?_⟩
    unfold Cur
    simp only
    rw [w64 _ (by omega)]
    omega
  · have := and_mask (Go.bits .xor .i64 ((wrap64 ((wrap64 (h * 6364136223846793005)) + 1442695040888963407)) / 8589934592) ((wrap64 ((wrap64 (h * 6364136223846793005)) + 1442695040888963407)) / 140737488355328)) 255 (by omega)
    exact ⟨this.1, this.2, h0, h1, h2⟩

theorem spec_l1Below_ok (b : List Int) (i h n : Int) (hc : Cur b i) (hn : n ≤ 1000000000) : OkP (spec_l1Below.f b i h n) (fun r => 0 ≤ r.1 ∧ (0 < n → r.1 < n) ∧ (n ≤ 0 → r.1 = 0) ∧ Cur b r.2.1) := by
  unfold spec_l1Below.f
  refine OkP.ite (fun h1 => OkP.now ⟨Int.le_refl 0, fun h => absurd h (by omega), fun _ => rfl, hc⟩) (fun h1 => OkP.ite (fun h2 => ?_) (fun h2 => ?_))
  · refine (spec_l1Byte_ok b i h hc).bind (fun r hr => OkP.neg (by omega) (OkP.now ?_))
    have := tmod_range (x := r.1) (n := n) hr.1 (by omega)
    exact ⟨this.1, fun _ => this.2, fun h => absurd h h1, hr.2.2⟩
  · refine (spec_l1Byte_ok b i h hc).bind (fun r hr => (spec_l1Byte_ok b _ _ hr.2.2).bind (fun s hs => (spec_l1Byte_ok b _ _ hs.2.2).bind (fun t ht => OkP.neg (by omega) (OkP.now ?_))))
    have e : wrap64 ((wrap64 ((wrap64 (r.1 * 65536)) + (wrap64 (s.1 * 256)))) + t.1) = r.1 * 65536 + s.1 * 256 + t.1 := by
      rw [w64 (r.1 * 65536) (by omega), w64 (s.1 * 256) (by omega), w64 (r.1 * 65536 + s.1 * 256) (by omega), w64 _ (by omega)]
    simp only
    rw [e]
    have := tmod_range (x := r.1 * 65536 + s.1 * 256 + t.1) (n := n) (by omega) (by omega)
    exact ⟨this.1, fun _ => this.2, fun h => absurd h h1, ht.2.2⟩

theorem spec_l5Some_ev (b : List Int) (i h n : Int) (hc : Cur b i) (hn : n ≤ 40) : EvP (fun k => spec_l5Some.f k b i h n) (fun r => r.1.length ≤ 40 ∧ Cur b r.2.1) := by
  -- the search for a card that isn't there ends
  have l1 : ∀ (out : List Int) (j i h : Int), out.length < 52 → (∀ c : Int, EvP (fun k => spec_l5Some.l0 k n (out ++ [c]) (wrap64 (j + 1)) b i h) (fun r => r.1.length ≤ 40 ∧ Cur b r.2.1)) →
      ∀ (d x : Nat), x < 52 → (((x + 7 * d) % 52 : Nat) : Int) ∉ out → EvP (fun k => spec_l5Some.l1 k n out j (x : Int) b i h) (fun r => r.1.length ≤ 40 ∧ Cur b r.2.1) := by
    intro out j i h ho hk d
    induction d with
    | zero =>
      intro x hx hd
      have e : (x + 7 * 0) % 52 = x := by omega
      rw [e] at hd
      refine EvP.unfold (fun k => rfl) ?_
      simp only [spec_l5Some.l1]
      refine EvP.bind (EvP.of (P := fun a => a = hasCard out (x : Int)) (spec_HasCard_ev out (x : Int) (by omega)) rfl) (fun a ha => ?_)
      have : a = false := by rw [ha]; simp [hasCard, hd]
      rw [this]
      exact EvP.neg (by simp) (EvP.pos (by omega) (hk _))
    | succ d ih =>
      intro x hx hd
      refine EvP.unfold (fun k => rfl) ?_
      simp only [spec_l5Some.l1]
      refine EvP.bind (EvP.of (P := fun a => a = hasCard out (x : Int)) (spec_HasCard_ev out (x : Int) (by omega)) rfl) (fun a ha => EvP.ite (fun _ => ?_) (fun _ => EvP.pos (by omega) (hk _)))
      have e : Int.tmod (wrap64 ((x : Int) + 7)) 52 = (((x + 7) % 52 : Nat) : Int) := by
        rw [w64 _ (by omega), Int.tmod_eq_emod_of_nonneg (by omega)]; omega
      rw [e]
      refine ih _ (Nat.mod_lt _ (by omega)) ?_
      have e2 : ((x + 7) % 52 + 7 * d) % 52 = (x + 7 * (d + 1)) % 52 := by omega
      rw [e2]; exact hd
  have l0 : ∀ (d : Nat) (out : List Int) (j i h : Int), 0 ≤ j → (d : Int) = max 0 (n - j) → (out.length : Int) = j → j ≤ max 0 n → Cur b i → EvP (fun k => spec_l5Some.l0 k n out j b i h) (fun r => r.1.length ≤ 40 ∧ Cur b r.2.1) := by
    intro d
    induction d with
    | zero =>
      intro out j i h hj hd ho hj2 hc
      refine EvP.unfold (fun k => rfl) ?_
      simp only [spec_l5Some.l0]
      exact EvP.neg (by omega) (EvP.now ⟨by simp only; omega, hc⟩)
    | succ d ih =>
      intro out j i h hj hd ho hj2 hc
      refine EvP.unfold (fun k => rfl) ?_
      simp only [spec_l5Some.l0]
      refine EvP.pos (by omega) (EvP.bind (spec_l1Below_ok b i h 52 hc (by omega)).ev (fun r hr => ?_))
      have h1 := hr.2.1 (by omega)
      have h0 := hr.1
      obtain ⟨x, hx⟩ : ∃ x : Nat, r.1 = (x : Int) := ⟨r.1.toNat, by omega⟩
      rw [hx]
      have hx2 : x < 52 := by omega
      obtain ⟨q, _, hq⟩ := seven_free out (by omega) x hx2
      refine l1 out j _ _ (by omega) (fun c => ?_) q x hx2 hq
      rw [w64 (j + 1) (by omega)]
      exact ih _ _ _ _ (by omega) (by omega) (by simp; omega) (by omega) hr.2.2.2
  simp only [spec_l5Some.f]
  exact l0 (max 0 n).toNat [] 0 i h (by omega) (by omega) rfl (by omega) hc

theorem spec_l1In_eq (n a b : Int) : spec_l1In.f n a b = some (inR n a b) := by
  unfold spec_l1In.f inR
  by_cases h : a ≤ n
  · rw [if_pos (by omega)]; simp [h]
  · rw [if_neg (by omega)]; simp [h]

def modF (p q : Int) : Int := if inR q 1 1000000000000 = true then Int.tmod (wrap64 (Int.tmod p q + q)) q else 0
theorem spec_Mod_eq (p q : Int) : spec_Mod.f p q = some (modF p q) := by
  unfold spec_Mod.f modF
  rw [spec_l1In_eq, Option.bind_some]
  by_cases h : inR q 1 1000000000000 = true
  · rw [if_pos h, if_pos h, if_neg (by rw [inR_iff] at h; omega)]
  · rw [if_neg h, if_neg h]
theorem modF_range {p q : Int} (h : 1 ≤ q ∧ q ≤ 1000000000000) : 0 ≤ modF p q ∧ modF p q < q := by
  unfold modF
  rw [if_pos ((inR_iff _ _ _).2 h)]
  have h1 : -q < Int.tmod p q ∧ Int.tmod p q < q := by
    have h2 := Int.tmod_lt_of_pos p (show 0 < q by omega)
    refine ⟨?_, h2⟩
    rcases Int.le_total 0 p with hp | hp
    · have := Int.tmod_nonneg q hp; omega
    · have e : Int.tmod p q = - Int.tmod (-p) q := by rw [Int.neg_tmod, Int.neg_neg]
      have := Int.tmod_lt_of_pos (-p) (show 0 < q by omega)
      omega
  rw [w64 _ (by omega)]
  exact tmod_range (by omega) (by omega)

theorem spec_Hash_ev (l : List Int) (hl : l.length ≤ 1048576000) : EvP (fun k => spec_Hash.f k l) (fun _ => True) := by
  have key : ∀ (d i : Nat) (s : Int), i + d = l.length → EvP (fun k => spec_Hash.l0 k l s (i : Int)) (fun _ => True) := by
    intro d
    induction d with
    | zero =>
      intro i s hd
      refine EvP.unfold (fun k => rfl) ?_
      simp only [spec_Hash.l0]
      exact EvP.neg (by omega) (EvP.now trivial)
    | succ d ih =>
      intro i s hd
      refine EvP.unfold (fun k => rfl) ?_
      simp only [spec_Hash.l0, spec_Mod_eq, Option.bind_some]
      rw [w64next i (by omega)]
      exact EvP.pos (by omega) (EvP.pos (by omega) (ih (i + 1) _ (by omega)))
  simp only [spec_Hash.f]
  exact key l.length 0 _ (by omega)

theorem spec_Shuffled_ev (l : List Int) (seed : Int) (hl : l.length ≤ 1048576000) : EvP (fun k => spec_Shuffled.f k l seed) (fun r => r.length = l.length) := by
  have key : ∀ (d : Nat) (w : List Int) (i : Int), (d : Int) = max 0 i → i < max 1 (w.length : Int) → w.length = l.length → EvP (fun k => spec_Shuffled.l0 k seed w i) (fun r => r.length = l.length) := by
    intro d
    induction d with
    | zero =>
      intro w i hd hi hw
      refine EvP.unfold (fun k => rfl) ?_
      simp only [spec_Shuffled.l0]
      exact EvP.neg (by omega) (EvP.now hw)
    | succ d ih =>
      intro w i hd hi hw
      refine EvP.unfold (fun k => rfl) ?_
      simp only [spec_Shuffled.l0, spec_Mod_eq, Option.bind_some]
      rw [w64 (i + 1) (by omega), w64 (i - 1) (by omega)]
      refine EvP.pos (by omega) (EvP.bind (spec_Hash_ev [seed, i] (by simp)) (fun r _ => ?_))
      have hm := modF_range (p := r) (q := i + 1) (by omega)
      refine EvP.pos (by omega) (EvP.pos (by omega) (EvP.pos (by omega) (EvP.pos (by omega) (ih _ _ (by omega) ?_ ?_))))
      · simp only [List.length_set]; omega
      · simp only [List.length_set]; exact hw
  simp only [spec_Shuffled.f, Option.bind_some, List.length_nil, List.nil_append]
  refine EvP.pos (by omega) ?_
  rw [w64 _ (by omega)]
  exact key (max 0 ((l.length : Int) - 1)).toNat l _ (by omega) (by omega) rfl

theorem spec_Missing_ev (l : List Int) (hl : l.length ≤ 1048576000) : EvP (fun k => spec_Missing.f k l) (fun r => r.length ≤ 52) := by
  have key : ∀ (d i : Nat) (w : List Int), i + d = 52 → w.length ≤ i → EvP (fun k => spec_Missing.l0 k l w (i : Int)) (fun r => r.length ≤ 52) := by
    intro d
    induction d with
    | zero =>
      intro i w hd hw
      refine EvP.unfold (fun k => rfl) ?_
      simp only [spec_Missing.l0]
      exact EvP.neg (by omega) (EvP.now (by omega))
    | succ d ih =>
      intro i w hd hw
      refine EvP.unfold (fun k => rfl) ?_
      simp only [spec_Missing.l0]
      rw [w64next i (by omega)]
      refine EvP.pos (by omega) (EvP.bind (EvP.of (P := fun _ => True) (spec_HasCard_ev l (i : Int) hl) trivial) (fun a _ => EvP.ite (fun _ => ih (i + 1) _ (by omega) (by omega)) (fun _ => EvP.pos (by omega) (ih (i + 1) _ (by omega) (by simp; omega)))))
  simp only [spec_Missing.f]
  exact key 52 0 [] (by omega) (by simp)

theorem spec_FullDeck_ev : EvP (fun k => spec_FullDeck.f k) (fun r => r.length ≤ 52) := by
  simp only [spec_FullDeck.f]
  exact EvP.bind (spec_Missing_ev [] (by simp)) (fun r hr => EvP.now hr)

theorem spec_l1Int_ok (b : List Int) (i h : Int) (l : List Int) (hc : Cur b i) (h0 : 0 < l.length) (hl : l.length ≤ 1000000000) : OkP (spec_l1Int.f b i h l) (fun r => r.1 ∈ l ∧ Cur b r.2.1) := by
  unfold spec_l1Int.f
  refine (spec_l1Below_ok b i h (l.length : Int) hc (by omega)).bind (fun r hr => OkP.pos hr.1 (OkP.pos (hr.2.1 (by omega)) (OkP.now ⟨?_, hr.2.2.2⟩)))
  obtain ⟨j, hj⟩ : ∃ j : Nat, r.1 = (j : Int) := ⟨r.1.toNat, by have := hr.1; omega⟩
  have hj2 : j < l.length := by have := hr.2.1 (by omega); omega
  simp only
  rw [hj, rd_at l j hj2]
  exact List.getElem_mem hj2

theorem spec_l1Once_ok (b : List Int) (i h n : Int) (hc : Cur b i) (hn : n ≤ 1000000000) : OkP (spec_l1Once.f b i h n) (fun r => Cur b r.2.1) := by
  unfold spec_l1Once.f
  exact (spec_l1Below_ok b i h n hc hn).bind (fun r hr => OkP.now hr.2.2.2)

theorem spec_l5Any_ev (b : List Int) (i h : Int) (hc : Cur b i) : EvP (fun k => spec_l5Any.f k b i h) (fun r => r.1.length ≤ 40 ∧ Cur b r.2.1) := by
  simp only [spec_l5Any.f]
  refine EvP.bind (spec_l1Below_ok b i h 9 hc (by omega)).ev (fun r hr => ?_)
  have h1 := hr.2.1 (by omega)
  refine EvP.bind (spec_l5Some_ev b _ _ r.1 hr.2.2.2 (by omega)) (fun s hs => EvP.ite (fun hp => ?_) (fun _ => EvP.now hs))
  refine EvP.bind (spec_l1Once_ok b _ _ 10 hs.2 (by omega)).ev (fun t ht => EvP.ite (fun _ => ?_) (fun _ => EvP.now ⟨hs.1, ht⟩))
  have h2 := hs.1
  rw [w64 _ (by omega)]
  refine EvP.pos (by omega) (EvP.pos (by omega) (EvP.bind (spec_l1Int_ok b _ _ [_, 52, -1] ht (by simp) (by simp)).ev (fun u hu => EvP.pos (by omega) (EvP.now ⟨by simp only [List.length_set]; omega, hu.2⟩))))

theorem spec_DrawDealt_ev (l : List Int) (hl : l.length ≤ 140737488351232) : EvP (fun k => spec_DrawDealt.f k l) (fun r => r.1.length ≤ 60 ∧ (-1 ≤ r.2.1 ∧ r.2.1 ≤ 7) ∧ (-1 ≤ r.2.2 ∧ r.2.2 ≤ 21)) := by
  simp only [spec_DrawDealt.f]
  refine EvP.bind (spec_l1New_ev l hl) (fun c hc => ?_)
  have hc2 := hc.2
  rw [← hc.1] at hc2
  have two : ∀ (w : List Int) (i h : Int), w.length ≤ 60 → Cur c.1 i → EvP (fun _ => (spec_l1Int.f c.1 i h [1, 2, 3, 4, 6, 7, 0]).bind fun x => ((spec_l1Int.f c.1 x.2.1 x.2.2 [0, 1, 2, 3, 5, 13, 20, 21, -1]).bind fun y => some (w, x.1, y.1))) (fun r => r.1.length ≤ 60 ∧ (-1 ≤ r.2.1 ∧ r.2.1 ≤ 7) ∧ (-1 ≤ r.2.2 ∧ r.2.2 ≤ 21)) := by
    intro w i h hw hi
    refine OkP.ev ((spec_l1Int_ok c.1 i h _ hi (by simp) (by simp)).bind (fun x hx => (spec_l1Int_ok c.1 _ _ _ hx.2 (by simp) (by simp)).bind (fun y hy => OkP.now ⟨hw, ?_, ?_⟩)))
    · have := hx.1
      simp only [List.mem_cons, List.not_mem_nil, or_false] at this
      simp only; omega
    · have := hy.1
      simp only [List.mem_cons, List.not_mem_nil, or_false] at this
      simp only; omega
  refine EvP.bind (spec_l1Below_ok c.1 _ _ 20 hc2 (by omega)).ev (fun r hr => ?_)
  have h1 := hr.2.1 (by omega)
  refine EvP.bind (spec_l5Some_ev c.1 _ _ r.1 hr.2.2.2 (by omega)) (fun s hs => EvP.bind (spec_l1Below_ok c.1 _ _ 4 hs.2 (by omega)).ev (fun t ht => EvP.ite (fun _ => ?_) (fun _ => EvP.ite (fun _ => ?_) (fun _ => two s.1 _ _ (by have := hs.1; omega) ht.2.2.2))))
  · refine EvP.bind spec_FullDeck_ev (fun d hd => EvP.bind (spec_l1Below_ok c.1 _ _ 99 ht.2.2.2 (by omega)).ev (fun u hu => EvP.bind (spec_Shuffled_ev d u.1 (by omega)) (fun w hw => two w _ _ (by omega) hu.2.2.2)))
  · exact EvP.bind (spec_l5Any_ev c.1 _ _ ht.2.2.2) (fun u hu => two u.1 _ _ (by have := hu.1; omega) hu.2)

theorem impl_InRange_eq (n a b : Int) : impl_InRange.f n a b = some (inR n a b) := by
  unfold impl_InRange.f inR
  by_cases h : a ≤ n
  · rw [if_pos (by omega)]; simp [h]
  · rw [if_neg (by omega)]; simp [h]

theorem impl_IsCard_eq (c : Int) : impl_IsCard.f c = some (isCard c) := by
  unfold impl_IsCard.f isCard
  rw [impl_InRange_eq]; rfl

theorem impl_IsHand_ev (l : List Int) (hl : l.length ≤ 1048576000) : Ev (fun k => impl_IsHand.f k l) (isHand l) := by
  simp only [impl_IsHand.f]
  refine ev_done (ev_loopN (fun k (s : List Bool) i => impl_IsHand.l0 k l s i) l.length (fun _ i => handF (l.take i) (l.drop i)) (fun s i => s.length = 52 ∧ ∀ c : Nat, c < 52 → s.getD c false = decide ((c : Int) ∈ l.take i)) ?_ ?_ _ 0 (by omega) ⟨by simp, fun c hc => by rw [List.getD_eq_getElem?_getD, List.getElem?_replicate, if_pos hc]; simp⟩) (by simp [isHand])
  · rintro s _
    refine ev_unfold (fun k => rfl) ?_
    simp only [impl_IsHand.l0]
    refine ev_neg (by omega) (ev_ret ?_)
    rw [drop_end]; rfl
  · rintro s i hi ⟨h52, hs⟩ ih
    refine ev_unfold (fun k => rfl) ?_
    simp only [impl_IsHand.l0]
    rw [w64next i (by omega), rd_at l i hi, drop_at l i hi]
    unfold handF
    refine ev_pos (by omega) (ev_pos (by omega) (ev_eq (impl_IsCard_eq _) (ev_ite (fun h => ?_) (fun h => ev_ret ?_))))
    · have hc := (isCard_iff _).1 h
      have he := hs l[i].toNat (by omega)
      rw [show ((l[i].toNat : Nat) : Int) = l[i] by omega] at he
      refine ev_pos (by omega) (ev_pos (by omega) (ev_ite (fun h2 => ev_ret ?_) (fun h2 => ev_done (ih _ ⟨by simpa using h52, fun c hc2 => ?_⟩) ?_)))
      · rw [h2] at he
        unfold hasCard
        rw [← he]; simp
      · rw [take_at l i hi, List.getD_eq_getElem?_getD, List.getElem?_set]
        have h3 := hs c hc2
        rw [List.getD_eq_getElem?_getD] at h3
        by_cases hci : l[i].toNat = c
        · rw [if_pos hci, if_pos (by omega)]
          have : (c : Int) = l[i] := by omega
          exact (decide_eq_true (List.mem_append.2 (.inr (by rw [this]; exact List.mem_singleton.2 rfl)))).symm
        · rw [if_neg hci, h3]
          have : ¬ (c : Int) = l[i] := by omega
          exact decide_eq_decide.2 ⟨fun h => List.mem_append.2 (.inl h), fun h => (List.mem_append.1 h).resolve_right (fun h => this (List.mem_singleton.1 h))⟩
      · rw [Bool.not_eq_true] at h2
        rw [h2] at he
        unfold hasCard
        rw [h, ← he, take_at l i hi]; simp
    · rw [Bool.not_eq_true] at h
      rw [h]; simp

theorem impl_copyOf_eq (l : List Int) (hl : l.length ≤ 1048576000) : impl_copyOf.f l = some l := by
  unfold impl_copyOf.f
  simp only [Option.bind_some, List.length_nil, List.nil_append]
  rw [if_pos (by omega)]

theorem impl_Dealt_ev (deck : List Int) (p e : Int) (hl : deck.length ≤ 1048576) : Ev (fun k => impl_Dealt.f k deck p e) (dealt deck p e) := by
  have l0 : canDeal deck p e = true → Ev (fun k => impl_Dealt.l0 k deck p e (List.replicate p.toNat []) (deck.take (p * e).toNat) ((deck.take (p * e).toNat).length : Int) 0) (dealt deck p e) := by
    intro hc
    obtain ⟨h1, hp, he, hle⟩ := canDeal_iff hc
    have hb := mul_bound hp he
    obtain ⟨n, rfl⟩ : ∃ n : Nat, p = (n : Int) := ⟨p.toNat, by omega⟩
    obtain ⟨m, rfl⟩ : ∃ m : Nat, e = (m : Int) := ⟨e.toNat, by omega⟩
    have hnm : (n : Int) * (m : Int) = ((m * n : Nat) : Int) := by rw [Int.natCast_mul, Int.mul_comm]
    rw [hnm] at hb hle
    have hw : wrap64 ((n : Int) * (m : Int)) = ((m * n : Nat) : Int) := by rw [hnm, w64 _ (by omega)]
    simp only [hnm, Int.toNat_natCast]
    have ht : (deck.take (m * n)).length = m * n := by rw [List.length_take]; omega
    have hend : Ev (fun k => impl_Dealt.l0 k deck (n : Int) (m : Int) (dealRows deck n m 0) (deck.take (m * n)) ((deck.take (m * n)).length : Int) ((m * n : Nat) : Int)) (dealt deck (n : Int) (m : Int)) := by
      refine ev_unfold (fun k => rfl) ?_
      simp only [impl_Dealt.l0]
      rw [hw, ht, Int.toNat_natCast]
      refine ev_neg (by omega) (ev_pos (by omega) (ev_pos (by omega) (ev_eq (impl_copyOf_eq _ (by rw [List.length_drop]; omega)) (ev_ret ?_))))
      unfold dealt
      rw [if_pos hc, hnm, Int.toNat_natCast, Int.toNat_natCast, Int.toNat_natCast]
    -- a whole round, told from its end
    have round : ∀ a : Nat, a < m → Ev (fun k => impl_Dealt.l0 k deck (n : Int) (m : Int) (dealRows deck n (a + 1) 0) (deck.take (m * n)) ((deck.take (m * n)).length : Int) (((a + 1) * n : Nat) : Int)) (dealt deck (n : Int) (m : Int)) →
        ∀ (d b : Nat), b + d = n → Ev (fun k => impl_Dealt.l0 k deck (n : Int) (m : Int) (dealRows deck n a b) (deck.take (m * n)) ((deck.take (m * n)).length : Int) ((a * n + b : Nat) : Int)) (dealt deck (n : Int) (m : Int)) := by
      intro a ha hnext d
      have hmul : (a + 1) * n ≤ m * n := Nat.mul_le_mul_right n ha
      rw [Nat.succ_mul] at hmul hnext
      induction d with
      | zero =>
        intro b hbd
        obtain rfl : b = n := by omega
        rw [dealRows_round]
        exact hnext
      | succ d ih =>
        intro b hbd
        refine ev_unfold (fun k => rfl) ?_
        simp only [impl_Dealt.l0]
        have hmod : Int.tmod ((a * n + b : Nat) : Int) (n : Int) = (b : Int) := by
          rw [← Int.ofNat_tmod]
          congr 1
          rw [Nat.mul_comm a n, Nat.mul_add_mod]
          exact Nat.mod_eq_of_lt (by omega)
        have hrow : rd_L2 (dealRows deck n a b) (b : Int) = dealRow deck n a b b := by
          rw [rdss_at _ b (by rw [dealRows_length]; omega), dealRows_at]
        have hlen : (dealRow deck n a b b).length ≤ 21 := by rw [dealRow_len, if_neg (Nat.lt_irrefl b)]; omega
        have hrd : rd (deck.take (m * n)) ((a * n + b : Nat) : Int) = rd deck ((a * n + b : Nat) : Int) := by
          rw [rd_at _ (a * n + b) (by rw [ht]; omega), rd_at deck (a * n + b) (by omega), List.getElem_take]
        rw [w64next (a * n + b) (by omega), hmod, hrow, hrd, Int.toNat_natCast, dealRows_set deck n a b (by omega), ht, dealRows_length]
        refine ev_pos (by omega) (ev_pos (by omega) (ev_pos (by omega) (ev_neg (by omega) (ev_pos (by omega) (ev_pos (by omega) (ev_pos (by omega) ?_))))))
        have := ih (b + 1) (by omega)
        rw [ht] at this
        exact this
    have all : ∀ (d a : Nat), a + d = m → Ev (fun k => impl_Dealt.l0 k deck (n : Int) (m : Int) (dealRows deck n a 0) (deck.take (m * n)) ((deck.take (m * n)).length : Int) ((a * n : Nat) : Int)) (dealt deck (n : Int) (m : Int)) := by
      intro d
      induction d with
      | zero =>
        intro a ha
        obtain rfl : a = m := by omega
        exact hend
      | succ d ih =>
        intro a ha
        exact round a (by omega) (ih (a + 1) (by omega)) n 0 (by omega)
    have := all m 0 (by omega)
    rw [Nat.zero_mul, dealRows_zero] at this
    exact this
  have j0 : ∀ b : Bool, (b = false → canDeal deck p e = true) → (b = true → canDeal deck p e = false) → Ev (fun k => impl_Dealt.j0 k deck p e b) (dealt deck p e) := by
    intro b h1 h2
    refine ev_unfold (fun k => rfl) ?_
    simp only [impl_Dealt.j0]
    refine ev_ite (fun h => ev_eq (impl_copyOf_eq deck (by omega)) (ev_ret ?_)) (fun h => ?_)
    · unfold dealt; rw [h2 h]; rfl
    · have hc := h1 (by simpa using h)
      obtain ⟨g1, hp, he, hle⟩ := canDeal_iff hc
      have hb := mul_bound hp he
      have hw : wrap64 (p * e) = p * e := w64 _ (by omega)
      have := l0 hc
      rw [hw]
      exact ev_pos (by omega) (ev_pos (by omega) (ev_pos (by omega) (ev_pos hle this)))
  have no : ∀ {x : Prop}, (canDeal deck p e = true → x) → ¬ x → canDeal deck p e = false := fun h k => by
    rw [← Bool.not_eq_true]; exact fun z => k (h z)
  simp only [impl_Dealt.f, impl_InRange_eq, Option.bind_some]
  refine Ev.bind (impl_IsHand_ev deck (by omega)) (ev_ite (fun h1 => ev_ite (fun h2 => ev_ite (fun h3 => ?_) (fun h3 => ?_)) (fun h2 => ?_)) (fun h1 => ?_))
  · have hp := (inR_iff _ _ _).1 h2
    have he := (inR_iff _ _ _).1 h3
    have hb := mul_bound hp he
    rw [w64 (p * e) (by omega)]
    refine j0 _ (fun h => ?_) (fun h => no (fun z => (canDeal_iff z).2.2.2) (by have := of_decide_eq_true h; omega))
    have := of_decide_eq_false h
    simp only [canDeal, h1, h2, h3, Bool.true_and, decide_eq_true_eq]
    omega
  · exact j0 _ (fun h => by cases h) (fun _ => no (fun z => (inR_iff _ _ _).2 (canDeal_iff z).2.2.1) h3)
  · exact j0 _ (fun h => by cases h) (fun _ => no (fun z => (inR_iff _ _ _).2 (canDeal_iff z).2.1) h2)
  · exact j0 _ (fun h => by cases h) (fun _ => no (fun z => (canDeal_iff z).1) h1)

theorem flat_le : ∀ (l : List (List Int)) (b : Nat), (∀ r ∈ l, r.length ≤ b) → l.flatten.length ≤ b * l.length
  | [], b, _ => by simp
  | r :: l, b, h => by
    have h1 := h r (by simp)
    have h2 := flat_le l b (fun x hx => h x (by simp [hx]))
    rw [List.flatten_cons, List.length_append, List.length_cons, Nat.mul_succ]
    omega
theorem impl_AllApart_ev (l : List (List Int)) (hl : l.length ≤ 1048576000) (hf : l.flatten.length ≤ 1048576000) : Ev (fun k => impl_AllApart.f k l) (isHand l.flatten) := by
  simp only [impl_AllApart.f]
  refine ev_done (ev_loop (fun k (s : List Int) i => impl_AllApart.l0 k s l (l.length : Int) i) l (fun s r => isHand (s ++ r.flatten)) (fun s i => s = (l.take i).flatten) ?_ ?_ [] 0 (by omega) rfl) rfl
  · rintro s hs
    refine ev_unfold (fun k => rfl) ?_
    simp only [impl_AllApart.l0]
    rw [List.take_length] at hs
    refine ev_neg (by omega) (Ev.bind (impl_IsHand_ev s (by rw [hs]; exact hf)) (ev_ret (by simp)))
  · rintro s i hi hs ih
    refine ev_unfold (fun k => rfl) ?_
    simp only [impl_AllApart.l0]
    rw [w64next i (by omega), rdss_at l i hi]
    have e : s ++ l[i] = (l.take (i + 1)).flatten := by rw [take_at l i hi, List.flatten_append, ← hs]; simp
    have hle : (s ++ l[i]).length ≤ 1048576000 := by
      rw [e]
      have h1 : l.flatten = (l.take (i + 1)).flatten ++ (l.drop (i + 1)).flatten := by rw [← List.flatten_append, List.take_append_drop]
      rw [h1, List.length_append] at hf
      omega
    rw [List.length_append] at hle
    refine ev_pos (by omega) (ev_pos (by omega) (ev_pos (by omega) (ev_pos (by omega) (ev_done (ih _ e) ?_))))
    rw [List.flatten_cons, List.append_assoc]

theorem impl_TotalCards_ev (l : List (List Int)) (hl : l.length ≤ 1048576000) : Ev (fun k => impl_TotalCards.f k l) (cardsW 0 l) := by
  simp only [impl_TotalCards.f]
  refine ev_loop (fun k (s : Int) i => impl_TotalCards.l0 k s l (l.length : Int) i) l (fun s r => cardsW s r) (fun _ _ => True) ?_ ?_ 0 0 (by omega) trivial
  · rintro s _
    refine ev_unfold (fun k => rfl) ?_
    simp only [impl_TotalCards.l0]
    exact ev_neg (by omega) (ev_ret rfl)
  · rintro s i hi _ ih
    refine ev_unfold (fun k => rfl) ?_
    simp only [impl_TotalCards.l0]
    rw [w64next i (by omega), rdss_at l i hi]
    refine ev_pos (by omega) (ev_pos (by omega) (ev_pos (by omega) ?_))
    exact ih _ trivial

theorem laws_sameInts_ev (a b : List Int) (hl : a.length ≤ 1048576000) : Ev (fun k => laws_sameInts.f k a b) (decide (a = b)) := by
  simp only [laws_sameInts.f]
  refine ev_ite (fun h => ?_) (fun h => ev_ret ?_)
  · have hlen : a.length = b.length := by omega
    have key : ∀ (d i : Nat), i + d = a.length → a.take i = b.take i → Ev (fun k => laws_sameInts.l0 k a b (i : Int)) (decide (a = b)) := by
      intro d
      induction d with
      | zero =>
        intro i hd ht
        refine ev_unfold (fun k => rfl) ?_
        simp only [laws_sameInts.l0]
        refine ev_neg (by omega) (ev_ret ?_)
        rw [List.take_of_length_le (by omega), List.take_of_length_le (by omega)] at ht
        simp [ht]
      | succ d ih =>
        intro i hd ht
        refine ev_unfold (fun k => rfl) ?_
        simp only [laws_sameInts.l0]
        rw [w64next i (by omega), rd_at a i (by omega), rd_at b i (by omega)]
        refine ev_pos (by omega) (ev_pos (by omega) (ev_pos (by omega) (ev_ite (fun h2 => ih (i + 1) (by omega) ?_) (fun h2 => ev_ret ?_))))
        · rw [take_at a i (by omega), take_at b i (by omega), ht, h2]
        · refine (decide_eq_false ?_).symm
          intro e
          subst e
          exact h2 rfl
    exact key a.length 0 (by omega) (by simp)
  · exact (decide_eq_false (fun e => h (by rw [e]))).symm

/-- What is collected out of hands that were dealt is what was dealt. -/
theorem impl_Collected_ev (deck rest : List Int) (p e : Nat) (hp : 1 ≤ p ∧ p ≤ 6) (he : e ≤ 20) (hle : e * p ≤ deck.length) (hl : deck.length ≤ 1048576) (hr : rest.length ≤ 1048576) : Ev (fun k => impl_Collected.f k (dealRows deck p e 0) rest) (deck.take (e * p) ++ rest) := by
  have hlen := dealRows_length deck p e 0
  have hrow : ∀ q : Nat, q < p → rd_L2 (dealRows deck p e 0) (q : Int) = dealRow deck p e 0 q := fun q hq => by
    rw [rdss_at _ q (by rw [hlen]; exact hq), dealRows_at]
  have hn : (dealRows deck p e 0).length = p := hlen
  have fin : ∀ (d i : Nat), i + d = 100 → e ≤ i → Ev (fun k => impl_Collected.l0 k (dealRows deck p e 0) rest (deck.take (e * p)) (i : Int)) (deck.take (e * p) ++ rest) := by
    intro d
    induction d with
    | zero =>
      intro i hd hi
      refine ev_unfold (fun k => rfl) ?_
      simp only [impl_Collected.l0]
      exact ev_neg (by omega) (ev_pos (by rw [List.length_take]; omega) (Ev.now _))
    | succ d ih =>
      intro i hd hi
      refine ev_unfold (fun k => rfl) ?_
      simp only [impl_Collected.l0]
      refine ev_pos (by omega) ?_
      have inner : ∀ (c q : Nat), q + c = p → Ev (fun k => impl_Collected.l1 k (dealRows deck p e 0) rest (deck.take (e * p)) (i : Int) (i : Int) (dealRows deck p e 0) ((dealRows deck p e 0).length : Int) (q : Int)) (deck.take (e * p) ++ rest) := by
        intro c
        induction c with
        | zero =>
          intro q hq
          refine ev_unfold (fun k => rfl) ?_
          simp only [impl_Collected.l1]
          rw [w64next i (by omega), hn]
          exact ev_neg (by omega) (ih (i + 1) (by omega) (by omega))
        | succ c ihc =>
          intro q hq
          refine ev_unfold (fun k => rfl) ?_
          simp only [impl_Collected.l1]
          rw [w64next q (by omega), hrow q (by omega), dealRow_len, if_neg (Nat.not_lt_zero q)]
          refine ev_pos (by rw [hn]; omega) (ev_pos (by omega) (ev_pos (by rw [hn]; omega) (ev_neg (by omega) (ihc (q + 1) (by omega)))))
      exact inner p 0 (by omega)
  have main : ∀ (d i : Nat), i + d = e → Ev (fun k => impl_Collected.l0 k (dealRows deck p e 0) rest (deck.take (i * p)) (i : Int)) (deck.take (e * p) ++ rest) := by
    intro d
    induction d with
    | zero =>
      intro i hd
      obtain rfl : i = e := by omega
      exact fin (100 - i) i (by omega) (Nat.le_refl _)
    | succ d ih =>
      intro i hd
      refine ev_unfold (fun k => rfl) ?_
      simp only [impl_Collected.l0]
      refine ev_pos (by omega) ?_
      have hmul : (i + 1) * p ≤ e * p := Nat.mul_le_mul_right p (by omega)
      rw [Nat.succ_mul] at hmul
      have inner : ∀ (c q : Nat), q + c = p → Ev (fun k => impl_Collected.l1 k (dealRows deck p e 0) rest (deck.take (i * p + q)) (i : Int) (i : Int) (dealRows deck p e 0) ((dealRows deck p e 0).length : Int) (q : Int)) (deck.take (e * p) ++ rest) := by
        intro c
        induction c with
        | zero =>
          intro q hq
          refine ev_unfold (fun k => rfl) ?_
          simp only [impl_Collected.l1]
          obtain rfl : q = p := by omega
          rw [w64next i (by omega), hn, ← Nat.succ_mul]
          exact ev_neg (by omega) (ih (i + 1) (by omega))
        | succ c ihc =>
          intro q hq
          refine ev_unfold (fun k => rfl) ?_
          simp only [impl_Collected.l1]
          have hq2 : i < (dealRow deck p e 0 q).length := by rw [dealRow_len, if_neg (Nat.not_lt_zero q)]; omega
          have hval : rd (dealRow deck p e 0 q) (i : Int) = deck[i * p + q]'(by omega) := by
            rw [rd_at _ i hq2, dealRow_at, rd_at deck (i * p + q) (by omega)]
          rw [w64next q (by omega), hrow q (by omega), hval, ← take_at deck (i * p + q) (by omega)]
          refine ev_pos (by rw [hn]; omega) (ev_pos (by omega) (ev_pos (by rw [hn]; omega) (ev_pos (by omega) (ev_pos (by omega) (ev_pos (by rw [List.length_take]; omega) (ihc (q + 1) (by omega)))))))
      exact inner p 0 (by omega)
  simp only [impl_Collected.f]
  have := main e 0 (by omega)
  rw [Nat.zero_mul, List.take_zero] at this
  exact this

theorem impl_PlaceOf_ev (l : List Int) (c : Int) (hl : l.length ≤ 1048576000) : Ev (fun k => impl_PlaceOf.f k l c) (placeOf l c) := by
  simp only [impl_PlaceOf.f]
  refine ev_loopN (fun k (_ : Unit) i => impl_PlaceOf.l0 k c l (l.length : Int) i) l.length (fun _ i => placeF c i (l.drop i)) (fun _ _ => True) ?_ ?_ () 0 (by omega) trivial
  · rintro s _
    refine ev_unfold (fun k => rfl) ?_
    simp only [impl_PlaceOf.l0]
    refine ev_neg (by omega) (ev_ret ?_)
    rw [drop_end]; rfl
  · rintro s i hi _ ih
    refine ev_unfold (fun k => rfl) ?_
    simp only [impl_PlaceOf.l0]
    refine ev_pos (by omega) (ev_pos (by omega) (ev_pos (by omega) ?_))
    rw [w64next i (by omega), rd_at l i hi, drop_at l i hi]
    unfold placeF
    refine ev_ite (fun h => ev_ret ?_) (fun h => ev_done (ih () trivial) ?_)
    · rw [if_pos h]
    · rw [if_neg h]; congr 1

theorem impl_HasCard_ev (l : List Int) (c : Int) (hl : l.length ≤ 1048576000) : Ev (fun k => impl_HasCard.f k l c) (hasCard l c) := by
  simp only [impl_HasCard.f]
  refine Ev.bind (impl_PlaceOf_ev l c hl) (ev_ret ?_)
  unfold hasCard
  exact decide_eq_decide.2 (placeOf_nonneg l c)

def whoF (c : Int) : Int → List (List Int) → Int
  | _, [] => -1
  | i, r :: l => if hasCard r c = true then i else whoF c (i + 1) l
theorem whoF_neg (c : Int) : ∀ (l : List (List Int)) (i : Int), 0 ≤ i → (whoF c i l < 0 ↔ c ∉ l.flatten) ∧ -1 ≤ whoF c i l
  | [], i, h => by simp [whoF]
  | r :: l, i, h => by
    unfold whoF
    have := whoF_neg c l (i + 1) (by omega)
    split
    · rename_i h1
      have h2 : c ∈ r := of_decide_eq_true h1
      refine ⟨⟨fun z => by omega, fun z => absurd (by simp [h2]) z⟩, by omega⟩
    · rename_i h1
      have h2 : c ∉ r := fun z => h1 (decide_eq_true z)
      refine ⟨this.1.trans ⟨fun z => by simp [h2]; simpa using z, fun z => by simp [h2] at z; simpa using z⟩, this.2⟩
theorem impl_WhoHas_ev (l : List (List Int)) (c : Int) (hl : l.length ≤ 1048576000) (hr : ∀ r ∈ l, r.length ≤ 1048576000) : Ev (fun k => impl_WhoHas.f k l c) (whoF c 0 l) := by
  simp only [impl_WhoHas.f]
  refine ev_done (ev_loop (fun k (s : Int) i => impl_WhoHas.l0 k c l (l.length : Int) i) l (fun s r => whoF c s r) (fun s i => s = (i : Int)) ?_ ?_ 0 0 (by omega) rfl) rfl
  · rintro s hs
    refine ev_unfold (fun k => rfl) ?_
    simp only [impl_WhoHas.l0]
    exact ev_neg (by omega) (ev_ret rfl)
  · rintro s i hi hs ih
    refine ev_unfold (fun k => rfl) ?_
    simp only [impl_WhoHas.l0]
    rw [w64next i (by omega), rdss_at l i hi]
    refine ev_pos (by omega) (ev_pos (by omega) (ev_pos (by omega) (Ev.bind (impl_HasCard_ev _ c (hr _ (List.getElem_mem hi))) (ev_ite (fun h => ev_ret ?_) (fun h => ev_done (ih (s + 1) (by omega)) ?_)))))
    · unfold whoF; rw [if_pos h, hs]
    · show _ = whoF c s (l[i] :: l.drop (i + 1))
      rw [whoF, if_neg h]

theorem cardsW_exact (l : List (List Int)) : ∀ s : Int, 0 ≤ s → s + (l.flatten.length : Int) ≤ 4611686018427387904 → cardsW s l = s + (l.flatten.length : Int) := by
  induction l with
  | nil => intro s _ _; simp [cardsW]
  | cons r l ih =>
    intro s h0 h1
    rw [List.flatten_cons, List.length_append] at h1 ⊢
    have e : cardsW s (r :: l) = cardsW (wrap64 (s + (r.length : Int))) l := rfl
    rw [e, w64 _ (by omega), ih _ (by omega) (by omega)]
    omega
theorem FnDeals : laws_FnDeals.Pure := by
  intro b hb _ _
  refine Ev.rounds ?_
  simp only [laws_FnDeals.f, laws_big_eq, Option.bind_some]
  refine ev_ite (fun _ => Ev.now _) (fun h => ?_)
  simp only [decide_eq_true_eq] at h
  refine EvP.use (spec_DrawDealt_ev b (by omega)) (fun r hr => ?_)
  obtain ⟨deck, p, e⟩ := r
  simp only at hr ⊢
  obtain ⟨hd, hp0, he0⟩ := hr
  refine Ev.bind (impl_Dealt_ev deck p e (by omega)) ?_
  by_cases hc : canDeal deck p e = true
  · obtain ⟨h1, hp, he, hle⟩ := canDeal_iff hc
    have hbd := mul_bound hp he
    have hnm := mul_nat (p := p) (e := e) (by omega) (by omega)
    unfold dealt
    rw [if_pos hc]
    simp only
    have hlen : (dealRows deck p.toNat e.toNat 0).length = p.toNat := dealRows_length _ _ _ _
    have hrows : ∀ r ∈ dealRows deck p.toNat e.toNat 0, r.length ≤ 20 := by
      intro r hr
      unfold dealRows at hr
      obtain ⟨q, _, rfl⟩ := List.mem_map.1 hr
      rw [dealRow_len, if_neg (Nat.not_lt_zero q)]; omega
    have hperm := deal_perm deck p.toNat e.toNat 0 (by omega) (by omega)
    rw [Nat.add_zero] at hperm
    have hfl : (dealRows deck p.toNat e.toNat 0).flatten.length = e.toNat * p.toNat := by
      rw [hperm.length_eq, List.length_take]; omega
    have hdk := (isHand_iff deck).1 h1
    have happ : isHand (dealRows deck p.toNat e.toNat 0).flatten = true := by
      rw [isHand_iff]
      exact ⟨fun x hx => hdk.1 x (List.mem_of_mem_take (hperm.mem_iff.1 hx)), hperm.nodup_iff.2 (hdk.2.sublist (List.take_sublist _ _))⟩
    refine ev_pos (by trivial) (ev_pos (by omega) (Ev.bind (impl_AllApart_ev _ (by omega) (by omega)) ?_))
    rw [happ]
    refine ev_pos rfl (Ev.bind (impl_TotalCards_ev _ (by omega)) (ev_pos ?_ ?_))
    · rw [cardsW_exact _ 0 (by omega) (by omega), hfl, w64 _ (by omega), hnm]; omega
    have hpe : (p * e).toNat = e.toNat * p.toNat := by rw [hnm, Int.toNat_natCast]
    refine Ev.bind (impl_Collected_ev deck _ p.toNat e.toNat (by omega) (by omega) (by omega) (by omega) (by rw [List.length_drop]; omega)) ?_
    rw [hpe, List.take_append_drop]
    refine Ev.bind (laws_sameInts_ev deck deck (by omega)) ?_
    rw [decide_eq_true (rfl : deck = deck)]
    refine ev_unfold (fun k => rfl) ?_
    simp only [laws_FnDeals.j0]
    refine ev_neg (by simp) ?_
    refine ev_loopN (fun k (_ : Unit) i => laws_FnDeals.l0 k deck (dealRows deck p.toNat e.toNat 0) (deck.drop (e.toNat * p.toNat)) i) deck.length (fun _ _ => true) (fun _ _ => True) ?_ ?_ () 0 (by omega) trivial
    · rintro _ _
      refine ev_unfold (fun k => rfl) ?_
      simp only [laws_FnDeals.l0]
      exact ev_neg (by omega) (ev_ret rfl)
    · rintro _ i hi _ ih
      refine ev_unfold (fun k => rfl) ?_
      simp only [laws_FnDeals.l0]
      rw [w64next i (by omega), rd_at deck i hi]
      have hw := whoF_neg deck[i] (dealRows deck p.toNat e.toNat 0) 0 (by omega)
      have hmem : deck[i] ∈ deck.take (e.toNat * p.toNat) ∨ deck[i] ∈ deck.drop (e.toNat * p.toNat) := by
        rw [← List.mem_append, List.take_append_drop]; exact List.getElem_mem hi
      have hnot : ¬ (deck[i] ∈ deck.take (e.toNat * p.toNat) ∧ deck[i] ∈ deck.drop (e.toNat * p.toNat)) := by
        rintro ⟨z1, z2⟩
        have hnd := hdk.2
        rw [← List.take_append_drop (e.toNat * p.toNat) deck, List.nodup_append] at hnd
        exact hnd.2.2 _ z1 _ z2 rfl
      have hcard := impl_HasCard_ev (deck.drop (e.toNat * p.toNat)) deck[i] (by rw [List.length_drop]; omega)
      refine ev_pos (by omega) (ev_pos (by omega) (Ev.bind (impl_WhoHas_ev _ _ (by omega) (fun r hr => by have := hrows r hr; omega)) (ev_ite (fun h2 => Ev.bind hcard ?_) (fun h2 => ev_pos (by omega) (Ev.bind hcard ?_)))))
      · have h3 : deck[i] ∈ deck.drop (e.toNat * p.toNat) := hmem.resolve_left (fun z => (hw.1.1 h2) (hperm.mem_iff.2 z))
        exact ev_pos (decide_eq_true h3) (ev_neg (by omega) (ih () trivial))
      · have h3 : deck[i] ∉ deck.drop (e.toNat * p.toNat) := fun z => h2 (hw.1.2 (fun z2 => hnot ⟨hperm.mem_iff.1 z2, z⟩))
        exact ev_neg (by simp [hasCard, h3]) (ih () trivial)
  · unfold dealt
    rw [if_neg hc]
    simp only
    refine ev_neg (by simp) (ev_pos (by simp) (Ev.bind (laws_sameInts_ev deck deck (by omega)) (ev_ret (by simp))))

end Go.Proofs.Ytcegnlconafikaa.Pure
