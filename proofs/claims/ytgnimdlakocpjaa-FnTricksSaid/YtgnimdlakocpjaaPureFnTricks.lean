/- In the given program FnTricks answers true for every input, by what its functions compute; no condition. -/
import Derived.Test.YtgnimdlakocpjaaQFnTricksx11
import Derived.Test.YtgnimdlakocpjaaLib
import Derived.Test.YtgnimdlakocpjaaCards
import Derived.Test.YtgnimdlakocpjaaCards2
import Derived.Test.YtgnimdlakocpjaaCalls
import Derived.Test.YtgnimdlakocpjaaHands
import Derived.Test.YtgnimdlakocpjaaSort
import Derived.Test.YtgnimdlakocpjaaDraw
import Derived.Test.YtgnimdlakocpjaaDeal
namespace Go.Proofs.Ytgnimdlakocpjaa.Pure
open Go.RowKit Go.Proofs.Ytgnimdlakocpjaa.QFnTricks Go.Proofs.YtgnimdlakocpjaaW.PrintWords Go.Proofs.YtgnimdlakocpjaaW.PrintLast Go.Proofs.YtgnimdlakocpjaaW.PrintMore Go.Proofs.Ytgnimdlakocpjaa.Lib
set_option linter.unusedVariables false
set_option linter.unusedSimpArgs false

theorem rdss_at (l : List (List Int)) (i : Nat) (h : i < l.length) : rd_L2 l (i : Int) = l[i] := by
  unfold rd_L2
  rw [Int.toNat_natCast, List.getD_eq_getElem?_getD, List.getElem?_eq_getElem h]
  rfl

theorem laws_big_eq (l : List Int) : laws_big.f l = some (decide ((l.length : Int) > 1048576)) := rfl

theorem spec_l1New_ev (l : List Int) (hl : l.length ≤ 140737488351232) : EvP (fun k => spec_l1New.f k l) (fun r => r.1 = l ∧ Cur l r.2.1) := by
  have key : ∀ (d i : Nat) (h : Int), i + d = l.length → EvP (fun k => spec_l1New.l0 k l h (i : Int)) (fun r => r.1 = l ∧ Cur l r.2.1) := by
    intro d
    induction d with
    | zero =>
      intro i h hd
      refine EvP.unfold (fun k => rfl) ?_
      simp only [spec_l1New.l0]
      exact EvP.neg (by omega) (EvP.now ⟨rfl, by unfold Cur; simp only; omega⟩)
    | succ d ih =>
      intro i h hd
      refine EvP.unfold (fun k => rfl) ?_
      simp only [spec_l1New.l0]
      refine EvP.pos (by omega) (EvP.ite (fun _ => EvP.pos (by omega) ?_) (fun _ => EvP.now ⟨rfl, by unfold Cur; simp only; omega⟩))
      rw [w64next i (by omega)]
      exact ih (i + 1) _ (by omega)
  simp only [spec_l1New.f]
  exact key l.length 0 _ (by omega)

theorem spec_l1In_eq (n a b : Int) : spec_l1In.f n a b = some (inR n a b) := by
  unfold spec_l1In.f inR
  by_cases h : a ≤ n
  · rw [if_pos (by omega)]; simp [h]
  · rw [if_neg (by omega)]; simp [h]

theorem spec_IsCard_eq (c : Int) : spec_IsCard.f c = some (isCard c) := by
  unfold spec_IsCard.f isCard
  rw [spec_l1In_eq]; rfl

theorem spec_HasCard_ev (l : List Int) (c : Int) (hl : l.length ≤ 1048576000) : Ev (fun k => spec_HasCard.f k l c) (hasCard l c) := by
  simp only [spec_HasCard.f]
  refine ev_done (ev_loop (fun k (_ : Unit) i => spec_HasCard.l0 k l c i) l (fun _ r => hasCard r c) (fun _ _ => True) ?_ ?_ () 0 (by omega) trivial) rfl
  · rintro s _
    refine ev_unfold (fun k => rfl) ?_
    simp only [spec_HasCard.l0]
    exact ev_neg (by omega) (ev_ret (by simp [hasCard]))
  · rintro s i hi _ ih
    refine ev_unfold (fun k => rfl) ?_
    simp only [spec_HasCard.l0]
    rw [w64next i (by omega), rd_at l i hi]
    refine ev_pos (by omega) (ev_pos (by omega) (ev_ite (fun h => ev_ret ?_) (fun h => ev_done (ih () trivial) ?_)))
    · simp [hasCard, h]
    · have h2 : ¬ c = l[i] := fun e => h e.symm
      simp only [hasCard, List.mem_cons]
      exact decide_eq_decide.2 ⟨fun h => .inr h, fun h => h.resolve_left h2⟩

theorem spec_IsHand_ev (l : List Int) (hl : l.length ≤ 1048576000) : Ev (fun k => spec_IsHand.f k l) (isHand l) := by
  simp only [spec_IsHand.f]
  refine ev_done (ev_loopN (fun k (_ : Unit) i => spec_IsHand.l0 k l i) l.length (fun _ i => handF (l.take i) (l.drop i)) (fun _ _ => True) ?_ ?_ () 0 (by omega) trivial) (by simp [isHand])
  · rintro s _
    refine ev_unfold (fun k => rfl) ?_
    simp only [spec_IsHand.l0]
    refine ev_neg (by omega) (ev_ret ?_)
    rw [drop_end]; rfl
  · rintro s i hi _ ih
    have ht : (l.take i).length ≤ 1048576000 := by simp; omega
    refine ev_unfold (fun k => rfl) ?_
    simp only [spec_IsHand.l0]
    rw [w64next i (by omega), rd_at l i hi, drop_at l i hi, Int.toNat_natCast]
    unfold handF
    refine ev_pos (by omega) (ev_pos (by omega) (ev_eq (spec_IsCard_eq _) (ev_ite (fun h => ?_) (fun h => ev_ret ?_))))
    · refine ev_pos (by omega) (Ev.bind (spec_HasCard_ev _ _ ht) (ev_ite (fun h2 => ev_ret ?_) (fun h2 => ev_done (ih () trivial) ?_)))
      · rw [h2]; simp
      · rw [Bool.not_eq_true] at h2
        rw [h, h2, take_at l i hi]; simp
    · rw [Bool.not_eq_true] at h
      rw [h]; simp

theorem deal_at (j n q : Nat) (h : j * n + q ≤ 1048576) : wrap64 (wrap64 ((j : Int) * (n : Int)) + (q : Int)) = ((j * n + q : Nat) : Int) := by
  have : (j : Int) * (n : Int) = ((j * n : Nat) : Int) := by rw [Int.natCast_mul]
  rw [this]
  generalize j * n = x at h ⊢
  rw [w64 (x : Int) (by omega), w64 _ (by omega)]
  omega
theorem spec_Dealt_end (deck : List Int) (n m x : Nat) (rows : List (List Int)) {r : List (List Int) × List Int × Bool} (hw : wrap64 ((n : Int) * (m : Int)) = (x : Int)) (hl : deck.length ≤ 1048576) (hle : (x : Int) ≤ (deck.length : Int)) (hr : (rows, deck.drop x, true) = r) : Ev (fun k => spec_Dealt.l0 k deck (n : Int) (m : Int) rows (n : Int)) r := by
  have hd : (deck.drop x).length ≤ deck.length := by rw [List.length_drop]; exact Nat.sub_le _ _
  generalize hq : deck.drop x = q at hd hr
  have hx : deck.drop ((x : Int)).toNat = q := by rw [Int.toNat_natCast]; exact hq
  have h0 : ¬ (n : Int) < (n : Int) := Int.lt_irrefl _
  have h1 : (0 : Int) ≤ (x : Int) := Int.natCast_nonneg x
  have h2 : ([] : List Int).length + q.length < 17592186044416 := by
    have : ([] : List Int).length = 0 := rfl
    omega
  refine ⟨1, fun k hk => ?_⟩
  obtain ⟨j, rfl⟩ : ∃ j, k = j + 1 := ⟨k - 1, by omega⟩
  show spec_Dealt.l0 (j + 1) deck (n : Int) (m : Int) rows (n : Int) = some r
  rw [spec_Dealt.l0]
  rw [if_neg h0, Option.bind_some, hw, hx, if_pos h1, if_pos hle, if_pos h2, List.nil_append, hr]
theorem spec_Dealt_ev (deck : List Int) (p e : Int) (hl : deck.length ≤ 1048576) : Ev (fun k => spec_Dealt.f k deck p e) (dealt deck p e) := by
  have l0 : canDeal deck p e = true → Ev (fun k => spec_Dealt.l0 k deck p e [] 0) (dealt deck p e) := by
    intro hc
    obtain ⟨h1, hp, he, hle⟩ := canDeal_iff hc
    have hb := mul_bound hp he
    obtain ⟨n, rfl⟩ : ∃ n : Nat, p = (n : Int) := ⟨p.toNat, by omega⟩
    obtain ⟨m, rfl⟩ : ∃ m : Nat, e = (m : Int) := ⟨e.toNat, by omega⟩
    have hnm : (n : Int) * (m : Int) = ((m * n : Nat) : Int) := by rw [Int.natCast_mul, Int.mul_comm]
    rw [hnm] at hb hle
    have hw : wrap64 ((n : Int) * (m : Int)) = ((m * n : Nat) : Int) := by rw [hnm, w64 _ (by omega)]
    have rows : ∀ q : Nat, q ≤ n → Ev (fun k => spec_Dealt.l0 k deck (n : Int) (m : Int) ((List.range q).map (dealRow deck n m 0)) (q : Int)) (dealt deck (n : Int) (m : Int)) := by
      have key : ∀ (d q : Nat), q + d = n → Ev (fun k => spec_Dealt.l0 k deck (n : Int) (m : Int) ((List.range q).map (dealRow deck n m 0)) (q : Int)) (dealt deck (n : Int) (m : Int)) := by
        intro d
        induction d with
        | zero =>
          intro q hq
          obtain rfl : q = n := by omega
          refine spec_Dealt_end deck q m (m * q) _ hw (by omega) hle ?_
          unfold dealt
          rw [if_pos hc, hnm]
          rfl
        | succ d ih =>
          intro q hq
          clear hw hnm
          refine ev_unfold (fun k => rfl) ?_
          simp only [spec_Dealt.l0]
          refine ev_pos (by omega) ?_
          have inner : ∀ (c j : Nat), j + c = m → Ev (fun k => spec_Dealt.l1 k deck (n : Int) (m : Int) ((List.range q).map (dealRow deck n m 0)) (q : Int) ((List.range j).map (fun (i : Nat) => rd deck ((i * n + q : Nat) : Int))) (j : Int)) (dealt deck (n : Int) (m : Int)) := by
            intro c
            induction c with
            | zero =>
              intro j hj
              obtain rfl : j = m := by omega
              refine ev_unfold (fun k => rfl) ?_
              simp only [spec_Dealt.l1]
              rw [w64next q (by omega)]
              have e1 : (List.range q).map (dealRow deck n j 0) ++ [(List.range j).map (fun (i : Nat) => rd deck ((i * n + q : Nat) : Int))] = (List.range (q + 1)).map (dealRow deck n j 0) := by
                rw [List.range_succ, List.map_append]
                congr 1
              rw [e1]
              exact ev_neg (by omega) (ev_pos (by rw [List.length_map, List.length_range]; omega) (ih (q + 1) (by omega)))
            | succ c ihc =>
              intro j hj
              refine ev_unfold (fun k => rfl) ?_
              simp only [spec_Dealt.l1]
              have hjm : j * n + n ≤ m * n := by rw [← Nat.succ_mul]; exact Nat.mul_le_mul_right n (by omega)
              rw [deal_at j n q (by omega), w64next j (by omega)]
              refine ev_pos (by omega) (ev_pos (by omega) (ev_pos (by omega) (ev_pos (by rw [List.length_map, List.length_range]; omega) ?_)))
              have e2 : (List.range j).map (fun (i : Nat) => rd deck ((i * n + q : Nat) : Int)) ++ [rd deck ((j * n + q : Nat) : Int)] = (List.range (j + 1)).map (fun (i : Nat) => rd deck ((i * n + q : Nat) : Int)) := by
                rw [List.range_succ, List.map_append]; rfl
              rw [e2]
              exact ihc (j + 1) (by omega)
          exact inner m 0 (by omega)
      intro q hq
      exact key (n - q) q (by omega)
    exact rows 0 (by omega)
  have j0 : ∀ b : Bool, (b = false → canDeal deck p e = true) → (b = true → canDeal deck p e = false) → Ev (fun k => spec_Dealt.j0 k deck p e b) (dealt deck p e) := by
    intro b h1 h2
    refine ev_unfold (fun k => rfl) ?_
    simp only [spec_Dealt.j0, Option.bind_some, List.length_nil, List.nil_append]
    refine ev_ite (fun h => ev_pos (by omega) (ev_ret ?_)) (fun h => l0 (h1 (by simpa using h)))
    unfold dealt; rw [h2 h]; rfl
  have no : ∀ {x : Prop}, (canDeal deck p e = true → x) → ¬ x → canDeal deck p e = false := fun h k => by
    rw [← Bool.not_eq_true]; exact fun z => k (h z)
  simp only [spec_Dealt.f, spec_l1In_eq, Option.bind_some]
  refine Ev.bind (spec_IsHand_ev deck (by omega)) (ev_ite (fun h1 => ev_ite (fun h2 => ev_ite (fun h3 => ?_) (fun h3 => ?_)) (fun h2 => ?_)) (fun h1 => ?_))
  · have hp := (inR_iff _ _ _).1 h2
    have he := (inR_iff _ _ _).1 h3
    have hb := mul_bound hp he
    rw [w64 (p * e) (by omega)]
    refine j0 _ (fun h => ?_) (fun h => no (fun z => (canDeal_iff z).2.2.2) (by have := of_decide_eq_true h; omega))
    have := of_decide_eq_false h
    simp only [canDeal, h1, h2, h3, Bool.true_and, decide_eq_true_eq]
    omega
  · exact j0 _ (fun h => by cases h) (fun _ => no (fun z => (inR_iff _ _ _).2 (canDeal_iff z).2.2.1) h3)
  · exact j0 _ (fun h => by cases h) (fun _ => no (fun z => (inR_iff _ _ _).2 (canDeal_iff z).2.1) h2)
  · exact j0 _ (fun h => by cases h) (fun _ => no (fun z => (canDeal_iff z).1) h1)

theorem spec_l1Byte_ok (b : List Int) (i h : Int) (hc : Cur b i) : OkP (spec_l1Byte.f b i h) (fun r => 0 ≤ r.1 ∧ r.1 ≤ 255 ∧ Cur b r.2.1) := by
  obtain ⟨h0, h1, h2⟩ := hc
  unfold spec_l1Byte.f
  refine OkP.ite (fun h3 => OkP.pos h0 (OkP.now ?_)) (fun h3 => OkP.now ?_)
  · have := and_mask (wrap64 ((Go.bits .and .i64 (Go.bits .xor .i64 ((wrap64 ((wrap64 (h * 6364136223846793005)) + 1442695040888963407)) / 8589934592) ((wrap64 ((wrap64 (h * 6364136223846793005)) + 1442695040888963407)) / 140737488355328)) 255) + (wrap64 (rd b i)))) 255 (by omega)
    refine ⟨this.1, this.2, ?_⟩
    unfold Cur
    simp only
    rw [w64 _ (by omega)]
    omega
  · have := and_mask (Go.bits .xor .i64 ((wrap64 ((wrap64 (h * 6364136223846793005)) + 1442695040888963407)) / 8589934592) ((wrap64 ((wrap64 (h * 6364136223846793005)) + 1442695040888963407)) / 140737488355328)) 255 (by omega)
    exact ⟨this.1, this.2, h0, h1, h2⟩

theorem spec_l1Below_ok (b : List Int) (i h n : Int) (hc : Cur b i) (hn : n ≤ 1000000000) : OkP (spec_l1Below.f b i h n) (fun r => 0 ≤ r.1 ∧ (0 < n → r.1 < n) ∧ (n ≤ 0 → r.1 = 0) ∧ Cur b r.2.1) := by
  unfold spec_l1Below.f
  refine OkP.ite (fun h1 => OkP.now ⟨Int.le_refl 0, fun h => absurd h (by omega), fun _ => rfl, hc⟩) (fun h1 => OkP.ite (fun h2 => ?_) (fun h2 => ?_))
  · refine (spec_l1Byte_ok b i h hc).bind (fun r hr => OkP.neg (by omega) (OkP.now ?_))
    have := tmod_range (x := r.1) (n := n) hr.1 (by omega)
    exact ⟨this.1, fun _ => this.2, fun h => absurd h h1, hr.2.2⟩
  · refine (spec_l1Byte_ok b i h hc).bind (fun r hr => (spec_l1Byte_ok b _ _ hr.2.2).bind (fun s hs => (spec_l1Byte_ok b _ _ hs.2.2).bind (fun t ht => OkP.neg (by omega) (OkP.now ?_))))
    have e : wrap64 ((wrap64 ((wrap64 (r.1 * 65536)) + (wrap64 (s.1 * 256)))) + t.1) = r.1 * 65536 + s.1 * 256 + t.1 := by
      rw [w64 (r.1 * 65536) (by omega), w64 (s.1 * 256) (by omega), w64 (r.1 * 65536 + s.1 * 256) (by omega), w64 _ (by omega)]
    simp only
    rw [e]
    have := tmod_range (x := r.1 * 65536 + s.1 * 256 + t.1) (n := n) (by omega) (by omega)
    exact ⟨this.1, fun _ => this.2, fun h => absurd h h1, ht.2.2⟩

theorem spec_l1Once_ok (b : List Int) (i h n : Int) (hc : Cur b i) (hn : n ≤ 1000000000) : OkP (spec_l1Once.f b i h n) (fun r => Cur b r.2.1) := by
  unfold spec_l1Once.f
  exact (spec_l1Below_ok b i h n hc hn).bind (fun r hr => OkP.now hr.2.2.2)

def modF (p q : Int) : Int := if inR q 1 1000000000000 = true then Int.tmod (wrap64 (Int.tmod p q + q)) q else 0
theorem spec_Mod_eq (p q : Int) : spec_Mod.f p q = some (modF p q) := by
  unfold spec_Mod.f modF
  rw [spec_l1In_eq, Option.bind_some]
  by_cases h : inR q 1 1000000000000 = true
  · rw [if_pos h, if_pos h, if_neg (by rw [inR_iff] at h; omega)]
  · rw [if_neg h, if_neg h]
theorem modF_range {p q : Int} (h : 1 ≤ q ∧ q ≤ 1000000000000) : 0 ≤ modF p q ∧ modF p q < q := by
  unfold modF
  rw [if_pos ((inR_iff _ _ _).2 h)]
  have h1 : -q < Int.tmod p q ∧ Int.tmod p q < q := by
    have h2 := Int.tmod_lt_of_pos p (show 0 < q by omega)
    refine ⟨?_, h2⟩
    rcases Int.le_total 0 p with hp | hp
    · have := Int.tmod_nonneg q hp; omega
    · have e : Int.tmod p q = - Int.tmod (-p) q := by rw [Int.neg_tmod, Int.neg_neg]
      have := Int.tmod_lt_of_pos (-p) (show 0 < q by omega)
      omega
  rw [w64 _ (by omega)]
  exact tmod_range (by omega) (by omega)

theorem spec_Hash_ev (l : List Int) (hl : l.length ≤ 1048576000) : EvP (fun k => spec_Hash.f k l) (fun _ => True) := by
  have key : ∀ (d i : Nat) (s : Int), i + d = l.length → EvP (fun k => spec_Hash.l0 k l s (i : Int)) (fun _ => True) := by
    intro d
    induction d with
    | zero =>
      intro i s hd
      refine EvP.unfold (fun k => rfl) ?_
      simp only [spec_Hash.l0]
      exact EvP.neg (by omega) (EvP.now trivial)
    | succ d ih =>
      intro i s hd
      refine EvP.unfold (fun k => rfl) ?_
      simp only [spec_Hash.l0, spec_Mod_eq, Option.bind_some]
      rw [w64next i (by omega)]
      exact EvP.pos (by omega) (EvP.pos (by omega) (ih (i + 1) _ (by omega)))
  simp only [spec_Hash.f]
  exact key l.length 0 _ (by omega)

theorem spec_Shuffled_ev (l : List Int) (seed : Int) (hl : l.length ≤ 1048576000) : EvP (fun k => spec_Shuffled.f k l seed) (fun r => r.length = l.length) := by
  have key : ∀ (d : Nat) (w : List Int) (i : Int), (d : Int) = max 0 i → i < max 1 (w.length : Int) → w.length = l.length → EvP (fun k => spec_Shuffled.l0 k seed w i) (fun r => r.length = l.length) := by
    intro d
    induction d with
    | zero =>
      intro w i hd hi hw
      refine EvP.unfold (fun k => rfl) ?_
      simp only [spec_Shuffled.l0]
      exact EvP.neg (by omega) (EvP.now hw)
    | succ d ih =>
      intro w i hd hi hw
      refine EvP.unfold (fun k => rfl) ?_
      simp only [spec_Shuffled.l0, spec_Mod_eq, Option.bind_some]
      rw [w64 (i + 1) (by omega), w64 (i - 1) (by omega)]
      refine EvP.pos (by omega) (EvP.bind (spec_Hash_ev [seed, i] (by simp)) (fun r _ => ?_))
      have hm := modF_range (p := r) (q := i + 1) (by omega)
      refine EvP.pos (by omega) (EvP.pos (by omega) (EvP.pos (by omega) (EvP.pos (by omega) (ih _ _ (by omega) ?_ ?_))))
      · simp only [List.length_set]; omega
      · simp only [List.length_set]; exact hw
  simp only [spec_Shuffled.f, Option.bind_some, List.length_nil, List.nil_append]
  refine EvP.pos (by omega) ?_
  rw [w64 _ (by omega)]
  exact key (max 0 ((l.length : Int) - 1)).toNat l _ (by omega) (by omega) rfl

theorem spec_Missing_ev (l : List Int) (hl : l.length ≤ 1048576000) : EvP (fun k => spec_Missing.f k l) (fun r => r.length ≤ 52) := by
  have key : ∀ (d i : Nat) (w : List Int), i + d = 52 → w.length ≤ i → EvP (fun k => spec_Missing.l0 k l w (i : Int)) (fun r => r.length ≤ 52) := by
    intro d
    induction d with
    | zero =>
      intro i w hd hw
      refine EvP.unfold (fun k => rfl) ?_
      simp only [spec_Missing.l0]
      exact EvP.neg (by omega) (EvP.now (by omega))
    | succ d ih =>
      intro i w hd hw
      refine EvP.unfold (fun k => rfl) ?_
      simp only [spec_Missing.l0]
      rw [w64next i (by omega)]
      refine EvP.pos (by omega) (EvP.bind (EvP.of (P := fun _ => True) (spec_HasCard_ev l (i : Int) hl) trivial) (fun a _ => EvP.ite (fun _ => ih (i + 1) _ (by omega) (by omega)) (fun _ => EvP.pos (by omega) (ih (i + 1) _ (by omega) (by simp; omega)))))
  simp only [spec_Missing.f]
  exact key 52 0 [] (by omega) (by simp)

theorem spec_FullDeck_ev : EvP (fun k => spec_FullDeck.f k) (fun r => r.length ≤ 52) := by
  simp only [spec_FullDeck.f]
  exact EvP.bind (spec_Missing_ev [] (by simp)) (fun r hr => EvP.now hr)

theorem spec_Sorted_put (l s : List Int) (i q : Nat) (hi : i < l.length) (hq : q ≤ s.length) (hs : s.length ≤ 1048576000) : spec_Sorted.put8 l s (i : Int) (q : Int) = some (insAt s q l[i]) := by
  have e2 : ([] ++ s.take q ++ [l[i]]).length ≤ 1048576001 := by simp; omega
  unfold spec_Sorted.put8
  simp only [Option.bind_some, Int.toNat_natCast]
  rw [rd_at l i hi]
  simp only [List.nil_append, List.length_nil]
  repeat rw [if_pos (by first | omega | (simp; omega))]
  unfold insAt
  rfl
theorem spec_Sorted_ev (l : List Int) (hl : l.length ≤ 1048576000) : Ev (fun k => spec_Sorted.f k l) (sorted l) := by
  simp only [spec_Sorted.f]
  refine ev_done (ev_loop (fun k (s : List Int) i => spec_Sorted.l0 k l s i) l (fun s r => sortF s r) (fun s i => s.length = i) ?_ ?_ [] 0 (by omega) rfl) rfl
  · rintro s _
    refine ev_unfold (fun k => rfl) ?_
    simp only [spec_Sorted.l0]
    exact ev_neg (by omega) (ev_ret rfl)
  · rintro s i hi hs ih
    have l1 : ∀ q : Nat, q ≤ s.length → Ev (fun k => spec_Sorted.l1 k l s (i : Int) (q : Int)) (sortF (insAt s (backF s l[i] q) l[i]) (l.drop (i + 1))) := by
      have fin : ∀ q : Nat, q ≤ s.length → Ev (fun k => (spec_Sorted.put8 l s (i : Int) (q : Int)).bind fun y => (spec_Sorted.l0 k l y (wrap64 ((i : Int) + 1)))) (sortF (insAt s q l[i]) (l.drop (i + 1))) := by
        intro q hq
        refine ev_eq (spec_Sorted_put l s i q hi hq (by omega)) ?_
        rw [w64next i (by omega)]
        refine ih _ ?_
        rw [insAt_length _ _ _ hq, hs]
      intro q
      induction q with
      | zero =>
        intro hq
        refine ev_unfold (fun k => rfl) ?_
        simp only [spec_Sorted.l1]
        refine ev_neg (by omega) ?_
        exact fin 0 (by omega)
      | succ q ihq =>
        intro hq
        refine ev_unfold (fun k => rfl) ?_
        simp only [spec_Sorted.l1]
        have e1 : wrap64 (((q + 1 : Nat) : Int) - 1) = (q : Int) := by rw [w64 _ (by omega)]; omega
        rw [e1, rd_at l i hi]
        refine ev_pos (by omega) (ev_pos (by omega) (ev_pos (by omega) (ev_pos (by omega) (ev_pos (by omega) ?_))))
        unfold backF
        refine ev_ite (fun h => ?_) (fun h => ?_)
        · rw [if_pos h]; exact ihq (by omega)
        · rw [if_neg h]; exact fin (q + 1) hq
    refine ev_unfold (fun k => rfl) ?_
    simp only [spec_Sorted.l0]
    exact ev_pos (by omega) (l1 s.length (Nat.le_refl _))

theorem spec_SuitOf_eq (c : Int) : spec_SuitOf.f c = some (suitOf c) := by
  unfold spec_SuitOf.f suitOf
  rw [spec_IsCard_eq]
  simp only [Option.bind_some]
  by_cases h : isCard c = true
  · have h2 := (isCard_iff c).1 h
    rw [if_pos h, if_pos h, Int.tdiv_eq_ediv_of_nonneg h2.1, w64 _ (by omega)]
  · rw [if_neg h, if_neg h]

theorem spec_MayPlay_ev (h t : List Int) (c : Int) (hl : h.length ≤ 1048576000) (tl : t.length ≤ 1048576000) : Ev (fun k => spec_MayPlay.f k h t c) (mayPlay h t c) := by
  have l0 : 0 < t.length → Ev (fun k => spec_MayPlay.l0 k h t 0) (h.all fun x => !decide (suitOf x = suitOf (rd t 0))) := by
    intro ht
    refine ev_done (ev_loop (fun k (_ : Unit) i => spec_MayPlay.l0 k h t i) h (fun _ r => r.all fun x => !decide (suitOf x = suitOf (rd t 0))) (fun _ _ => True) ?_ ?_ () 0 (by omega) trivial) rfl
    · rintro s _
      refine ev_unfold (fun k => rfl) ?_
      simp only [spec_MayPlay.l0]
      exact ev_neg (by omega) (ev_ret rfl)
    · rintro s i hi _ ih
      refine ev_unfold (fun k => rfl) ?_
      simp only [spec_MayPlay.l0, spec_SuitOf_eq, Option.bind_some]
      rw [w64next i (by omega), rd_at h i hi, List.all_cons]
      refine ev_pos (by omega) (ev_pos (by omega) (ev_pos (by omega) ?_))
      refine ev_ite (fun h2 => ev_ret ?_) (fun h2 => ev_done (ih () trivial) ?_)
      · rw [show decide (suitOf h[i] = suitOf (rd t 0)) = true from decide_eq_true h2]; rfl
      · rw [show decide (suitOf h[i] = suitOf (rd t 0)) = false from decide_eq_false h2]; rfl
  have j1 : ∀ b, (b = false → 0 < t.length) → Ev (fun k => spec_MayPlay.j1 k h t b) (b || h.all fun x => !decide (suitOf x = suitOf (rd t 0))) := by
    intro b hb
    refine ev_unfold (fun k => rfl) ?_
    simp only [spec_MayPlay.j1]
    refine ev_ite (fun h2 => ?_) (fun h2 => ?_)
    · rw [h2]; exact Ev.now _
    · rw [Bool.not_eq_true] at h2; rw [h2]; exact l0 (hb h2)
  have j0 : ∀ b, Ev (fun k => spec_MayPlay.j0 k h t c b) (!b && ((decide (t.length = 0) || decide (suitOf c = suitOf (rd t 0))) || h.all fun x => !decide (suitOf x = suitOf (rd t 0)))) := by
    intro b
    refine ev_unfold (fun k => rfl) ?_
    simp only [spec_MayPlay.j0, spec_SuitOf_eq, Option.bind_some]
    refine ev_ite (fun h2 => ?_) (fun h2 => ?_)
    · rw [h2]; exact Ev.now _
    · rw [Bool.not_eq_true] at h2; rw [h2]
      refine ev_ite (fun h3 => ?_) (fun h3 => ?_)
      · refine ev_done (j1 true (fun z => by cases z)) ?_
        rw [show decide (t.length = 0) = true from decide_eq_true (by omega)]; rfl
      · refine ev_pos (by omega) (ev_done (j1 _ (fun _ => by omega)) ?_)
        rw [show decide (t.length = 0) = false from decide_eq_false (by omega)]
        by_cases h4 : suitOf c = suitOf (rd t 0)
        · simp [h4]
        · simp [h4]
  simp only [spec_MayPlay.f]
  unfold mayPlay
  refine Ev.bind (spec_IsHand_ev h hl) (ev_ite (fun h2 => ?_) (fun h2 => ev_done (j0 _) ?_))
  · refine Ev.bind (spec_HasCard_ev h c hl) (ev_done (j0 _) ?_)
    rw [h2]; simp
  · rw [Bool.not_eq_true] at h2; rw [h2]; rfl

theorem spec_Choices_ev (h t : List Int) (hl : h.length ≤ 1048576000) (tl : t.length ≤ 1048576000) : Ev (fun k => spec_Choices.f k h t) (choices h t) := by
  have sl : (sorted h).length ≤ 1048576000 := by rw [sorted_length]; exact hl
  simp only [spec_Choices.f]
  refine Ev.bind (spec_Sorted_ev h hl) ?_
  unfold choices
  generalize sorted h = l at sl
  refine ev_done (ev_loop (fun k (s : List Int) i => spec_Choices.l0 k h t s l i) l (fun s r => s ++ r.filter (mayPlay h t)) (fun s i => s.length ≤ i) ?_ ?_ [] 0 (by omega) (by simp)) (by simp)
  · rintro s _
    refine ev_unfold (fun k => rfl) ?_
    simp only [spec_Choices.l0]
    exact ev_neg (by omega) (ev_ret (by simp))
  · rintro s i hi hs ih
    refine ev_unfold (fun k => rfl) ?_
    simp only [spec_Choices.l0]
    rw [w64next i (by omega), rd_at l i hi]
    refine ev_pos (by omega) (ev_pos (by omega) (Ev.bind (spec_MayPlay_ev h t _ hl tl) ?_))
    rw [List.filter_cons]
    refine ev_ite (fun h2 => ?_) (fun h2 => ?_)
    · rw [if_pos h2]
      refine ev_pos (by omega) (ev_done (ih _ (by simp; omega)) (by simp))
    · rw [if_neg h2]
      exact ih _ (by omega)

theorem spec_l1Int_ok (b : List Int) (i h : Int) (l : List Int) (hc : Cur b i) (h0 : 0 < l.length) (hl : l.length ≤ 1000000000) : OkP (spec_l1Int.f b i h l) (fun r => r.1 ∈ l ∧ Cur b r.2.1) := by
  unfold spec_l1Int.f
  refine (spec_l1Below_ok b i h (l.length : Int) hc (by omega)).bind (fun r hr => OkP.pos hr.1 (OkP.pos (hr.2.1 (by omega)) (OkP.now ⟨?_, hr.2.2.2⟩)))
  obtain ⟨j, hj⟩ : ∃ j : Nat, r.1 = (j : Int) := ⟨r.1.toNat, by have := hr.1; omega⟩
  have hj2 : j < l.length := by have := hr.2.1 (by omega); omega
  simp only
  rw [hj, rd_at l j hj2]
  exact List.getElem_mem hj2

theorem impl_Sorted_ev (l : List Int) (hl : l.length ≤ 1048576000) : Ev (fun k => impl_Sorted.f k l) (sorted l) := by
  simp only [impl_Sorted.f]
  refine ev_done (ev_loop (fun k (s : List Int) i => impl_Sorted.l0 k s l (l.length : Int) i) l (fun s r => sortF s r) (fun s i => s.length = i) ?_ ?_ [] 0 (by omega) rfl) rfl
  · rintro s _
    refine ev_unfold (fun k => rfl) ?_
    simp only [impl_Sorted.l0]
    exact ev_neg (by omega) (ev_ret rfl)
  · rintro s i hi hs ih
    have l1 : ∀ q : Nat, q ≤ s.length → Ev (fun k => impl_Sorted.l1 k s l[i] (q : Int) l (l.length : Int) (i : Int)) (sortF (insAt s (backF s l[i] q) l[i]) (l.drop (i + 1))) := by
      have fin : ∀ q : Nat, q ≤ s.length → Ev (fun k => if s.length < 17592186044416 then ((some (s ++ [0] : List Int)).bind fun y => (if 0 ≤ (q : Int) then (if (q : Int) < (y.length : Int) then (impl_Sorted.l0 k ((Arr.shifted y (q : Int).toNat).set (q : Int).toNat l[i]) l (l.length : Int) (wrap64 ((i : Int) + 1))) else none) else none)) else none) (sortF (insAt s q l[i]) (l.drop (i + 1))) := by
        intro q hq
        refine ev_pos (by omega) ?_
        simp only [Option.bind_some]
        rw [w64next i (by omega), Int.toNat_natCast, shift_set s 0 l[i] q hq]
        refine ev_pos (by omega) (ev_pos (by simp; omega) (ih _ ?_))
        rw [insAt_length _ _ _ hq, hs]
      intro q
      induction q with
      | zero =>
        intro hq
        refine ev_unfold (fun k => rfl) ?_
        simp only [impl_Sorted.l1]
        refine ev_neg (by omega) ?_
        exact fin 0 (by omega)
      | succ q ihq =>
        intro hq
        refine ev_unfold (fun k => rfl) ?_
        simp only [impl_Sorted.l1]
        have e1 : wrap64 (((q + 1 : Nat) : Int) - 1) = (q : Int) := by rw [w64 _ (by omega)]; omega
        rw [e1]
        refine ev_pos (by omega) (ev_pos (by omega) (ev_pos (by omega) ?_))
        unfold backF
        refine ev_ite (fun h => ?_) (fun h => ?_)
        · rw [if_pos h]; exact ihq (by omega)
        · rw [if_neg h]; exact fin (q + 1) hq
    refine ev_unfold (fun k => rfl) ?_
    simp only [impl_Sorted.l0]
    rw [rd_at l i hi]
    exact ev_pos (by omega) (ev_pos (by omega) (ev_pos (by omega) (l1 s.length (Nat.le_refl _))))

theorem impl_InRange_eq (n a b : Int) : impl_InRange.f n a b = some (inR n a b) := by
  unfold impl_InRange.f inR
  by_cases h : a ≤ n
  · rw [if_pos (by omega)]; simp [h]
  · rw [if_neg (by omega)]; simp [h]

theorem impl_IsCard_eq (c : Int) : impl_IsCard.f c = some (isCard c) := by
  unfold impl_IsCard.f isCard
  rw [impl_InRange_eq]; rfl

theorem impl_IsHand_ev (l : List Int) (hl : l.length ≤ 1048576000) : Ev (fun k => impl_IsHand.f k l) (isHand l) := by
  simp only [impl_IsHand.f]
  refine ev_done (ev_loopN (fun k (s : List Bool) i => impl_IsHand.l0 k l s i) l.length (fun _ i => handF (l.take i) (l.drop i)) (fun s i => s.length = 52 ∧ ∀ c : Nat, c < 52 → s.getD c false = decide ((c : Int) ∈ l.take i)) ?_ ?_ _ 0 (by omega) ⟨by simp, fun c hc => by rw [List.getD_eq_getElem?_getD, List.getElem?_replicate, if_pos hc]; simp⟩) (by simp [isHand])
  · rintro s _
    refine ev_unfold (fun k => rfl) ?_
    simp only [impl_IsHand.l0]
    refine ev_neg (by omega) (ev_ret ?_)
    rw [drop_end]; rfl
  · rintro s i hi ⟨h52, hs⟩ ih
    refine ev_unfold (fun k => rfl) ?_
    simp only [impl_IsHand.l0]
    rw [w64next i (by omega), rd_at l i hi, drop_at l i hi]
    unfold handF
    refine ev_pos (by omega) (ev_pos (by omega) (ev_eq (impl_IsCard_eq _) (ev_ite (fun h => ?_) (fun h => ev_ret ?_))))
    · have hc := (isCard_iff _).1 h
      have he := hs l[i].toNat (by omega)
      rw [show ((l[i].toNat : Nat) : Int) = l[i] by omega] at he
      refine ev_pos (by omega) (ev_pos (by omega) (ev_ite (fun h2 => ev_ret ?_) (fun h2 => ev_done (ih _ ⟨by simpa using h52, fun c hc2 => ?_⟩) ?_)))
      · rw [h2] at he
        unfold hasCard
        rw [← he]; simp
      · rw [take_at l i hi, List.getD_eq_getElem?_getD, List.getElem?_set]
        have h3 := hs c hc2
        rw [List.getD_eq_getElem?_getD] at h3
        by_cases hci : l[i].toNat = c
        · rw [if_pos hci, if_pos (by omega)]
          have : (c : Int) = l[i] := by omega
          exact (decide_eq_true (List.mem_append.2 (.inr (by rw [this]; exact List.mem_singleton.2 rfl)))).symm
        · rw [if_neg hci, h3]
          have : ¬ (c : Int) = l[i] := by omega
          exact decide_eq_decide.2 ⟨fun h => List.mem_append.2 (.inl h), fun h => (List.mem_append.1 h).resolve_right (fun h => this (List.mem_singleton.1 h))⟩
      · rw [Bool.not_eq_true] at h2
        rw [h2] at he
        unfold hasCard
        rw [h, ← he, take_at l i hi]; simp
    · rw [Bool.not_eq_true] at h
      rw [h]; simp

theorem impl_PlaceOf_ev (l : List Int) (c : Int) (hl : l.length ≤ 1048576000) : Ev (fun k => impl_PlaceOf.f k l c) (placeOf l c) := by
  simp only [impl_PlaceOf.f]
  refine ev_loopN (fun k (_ : Unit) i => impl_PlaceOf.l0 k c l (l.length : Int) i) l.length (fun _ i => placeF c i (l.drop i)) (fun _ _ => True) ?_ ?_ () 0 (by omega) trivial
  · rintro s _
    refine ev_unfold (fun k => rfl) ?_
    simp only [impl_PlaceOf.l0]
    refine ev_neg (by omega) (ev_ret ?_)
    rw [drop_end]; rfl
  · rintro s i hi _ ih
    refine ev_unfold (fun k => rfl) ?_
    simp only [impl_PlaceOf.l0]
    refine ev_pos (by omega) (ev_pos (by omega) (ev_pos (by omega) ?_))
    rw [w64next i (by omega), rd_at l i hi, drop_at l i hi]
    unfold placeF
    refine ev_ite (fun h => ev_ret ?_) (fun h => ev_done (ih () trivial) ?_)
    · rw [if_pos h]
    · rw [if_neg h]; congr 1

theorem impl_HasCard_ev (l : List Int) (c : Int) (hl : l.length ≤ 1048576000) : Ev (fun k => impl_HasCard.f k l c) (hasCard l c) := by
  simp only [impl_HasCard.f]
  refine Ev.bind (impl_PlaceOf_ev l c hl) (ev_ret ?_)
  unfold hasCard
  exact decide_eq_decide.2 (placeOf_nonneg l c)

theorem impl_SuitOf_eq (c : Int) : impl_SuitOf.f c = some (suitOf c) := by
  unfold impl_SuitOf.f suitOf
  rw [impl_IsCard_eq]
  simp only [Option.bind_some]
  by_cases h : isCard c = true
  · have h2 := (isCard_iff c).1 h
    rw [if_pos h, if_pos h, Int.tdiv_eq_ediv_of_nonneg h2.1, w64 _ (by omega)]
  · rw [if_neg h, if_neg h]

theorem impl_MayPlay_ev (h t : List Int) (c : Int) (hl : h.length ≤ 1048576000) (tl : t.length ≤ 1048576000) : Ev (fun k => impl_MayPlay.f k h t c) (mayPlay h t c) := by
  have l0 : 0 < t.length → Ev (fun k => impl_MayPlay.l0 k t h (h.length : Int) 0) (h.all fun x => !decide (suitOf x = suitOf (rd t 0))) := by
    intro ht
    refine ev_done (ev_loop (fun k (_ : Unit) i => impl_MayPlay.l0 k t h (h.length : Int) i) h (fun _ r => r.all fun x => !decide (suitOf x = suitOf (rd t 0))) (fun _ _ => True) ?_ ?_ () 0 (by omega) trivial) rfl
    · rintro s _
      refine ev_unfold (fun k => rfl) ?_
      simp only [impl_MayPlay.l0]
      exact ev_neg (by omega) (ev_ret rfl)
    · rintro s i hi _ ih
      refine ev_unfold (fun k => rfl) ?_
      simp only [impl_MayPlay.l0, impl_SuitOf_eq, Option.bind_some]
      rw [w64next i (by omega), rd_at h i hi, List.all_cons]
      refine ev_pos (by omega) (ev_pos (by omega) (ev_pos (by omega) (ev_pos (by omega) ?_)))
      refine ev_ite (fun h2 => ev_ret ?_) (fun h2 => ev_done (ih () trivial) ?_)
      · rw [show decide (suitOf h[i] = suitOf (rd t 0)) = true from decide_eq_true h2]; rfl
      · rw [show decide (suitOf h[i] = suitOf (rd t 0)) = false from decide_eq_false h2]; rfl
  have j1 : ∀ b, (b = false → 0 < t.length) → Ev (fun k => impl_MayPlay.j1 k h t b) (b || h.all fun x => !decide (suitOf x = suitOf (rd t 0))) := by
    intro b hb
    refine ev_unfold (fun k => rfl) ?_
    simp only [impl_MayPlay.j1]
    refine ev_ite (fun h2 => ?_) (fun h2 => ?_)
    · rw [h2]; exact Ev.now _
    · rw [Bool.not_eq_true] at h2; rw [h2]; exact l0 (hb h2)
  have j0 : ∀ b, Ev (fun k => impl_MayPlay.j0 k h t c b) (!b && ((decide (t.length = 0) || decide (suitOf c = suitOf (rd t 0))) || h.all fun x => !decide (suitOf x = suitOf (rd t 0)))) := by
    intro b
    refine ev_unfold (fun k => rfl) ?_
    simp only [impl_MayPlay.j0, impl_SuitOf_eq, Option.bind_some]
    refine ev_ite (fun h2 => ?_) (fun h2 => ?_)
    · rw [h2]; exact Ev.now _
    · rw [Bool.not_eq_true] at h2; rw [h2]
      refine ev_ite (fun h3 => ?_) (fun h3 => ?_)
      · refine ev_done (j1 true (fun z => by cases z)) ?_
        rw [show decide (t.length = 0) = true from decide_eq_true (by omega)]; rfl
      · refine ev_pos (by omega) (ev_done (j1 _ (fun _ => by omega)) ?_)
        rw [show decide (t.length = 0) = false from decide_eq_false (by omega)]
        by_cases h4 : suitOf c = suitOf (rd t 0)
        · simp [h4]
        · simp [h4]
  simp only [impl_MayPlay.f]
  unfold mayPlay
  refine Ev.bind (impl_IsHand_ev h hl) (ev_ite (fun h2 => ?_) (fun h2 => ev_done (j0 _) ?_))
  · refine Ev.bind (impl_HasCard_ev h c hl) (ev_done (j0 _) ?_)
    rw [h2]; simp
  · rw [Bool.not_eq_true] at h2; rw [h2]; rfl

theorem impl_Choices_ev (h t : List Int) (hl : h.length ≤ 1048576000) (tl : t.length ≤ 1048576000) : Ev (fun k => impl_Choices.f k h t) (choices h t) := by
  have sl : (sorted h).length ≤ 1048576000 := by rw [sorted_length]; exact hl
  simp only [impl_Choices.f]
  refine Ev.bind (impl_Sorted_ev h hl) ?_
  unfold choices
  generalize sorted h = l at sl
  refine ev_done (ev_loop (fun k (s : List Int) i => impl_Choices.l0 k h t s l (l.length : Int) i) l (fun s r => s ++ r.filter (mayPlay h t)) (fun s i => s.length ≤ i) ?_ ?_ [] 0 (by omega) (by simp)) (by simp)
  · rintro s _
    refine ev_unfold (fun k => rfl) ?_
    simp only [impl_Choices.l0]
    exact ev_neg (by omega) (ev_ret (by simp))
  · rintro s i hi hs ih
    refine ev_unfold (fun k => rfl) ?_
    simp only [impl_Choices.l0]
    rw [w64next i (by omega), rd_at l i hi]
    refine ev_pos (by omega) (ev_pos (by omega) (ev_pos (by omega) (Ev.bind (impl_MayPlay_ev h t _ hl tl) ?_)))
    rw [List.filter_cons]
    refine ev_ite (fun h2 => ?_) (fun h2 => ?_)
    · rw [if_pos h2]
      refine ev_pos (by omega) (ev_done (ih _ (by simp; omega)) (by simp))
    · rw [if_neg h2]
      exact ih _ (by omega)

theorem spec_l5Some_ev (b : List Int) (i h n : Int) (hc : Cur b i) (hn : n ≤ 40) : EvP (fun k => spec_l5Some.f k b i h n) (fun r => r.1.length ≤ 40 ∧ Cur b r.2.1) := by
  -- the search for a card that isn't there ends
  have l1 : ∀ (out : List Int) (j i h : Int), out.length < 52 → (∀ c : Int, EvP (fun k => spec_l5Some.l0 k n (out ++ [c]) (wrap64 (j + 1)) b i h) (fun r => r.1.length ≤ 40 ∧ Cur b r.2.1)) →
      ∀ (d x : Nat), x < 52 → (((x + 7 * d) % 52 : Nat) : Int) ∉ out → EvP (fun k => spec_l5Some.l1 k n out j (x : Int) b i h) (fun r => r.1.length ≤ 40 ∧ Cur b r.2.1) := by
    intro out j i h ho hk d
    induction d with
    | zero =>
      intro x hx hd
      have e : (x + 7 * 0) % 52 = x := by omega
      rw [e] at hd
      refine EvP.unfold (fun k => rfl) ?_
      simp only [spec_l5Some.l1]
      refine EvP.bind (EvP.of (P := fun a => a = hasCard out (x : Int)) (spec_HasCard_ev out (x : Int) (by omega)) rfl) (fun a ha => ?_)
      have : a = false := by rw [ha]; simp [hasCard, hd]
      rw [this]
      exact EvP.neg (by simp) (EvP.pos (by omega) (hk _))
    | succ d ih =>
      intro x hx hd
      refine EvP.unfold (fun k => rfl) ?_
      simp only [spec_l5Some.l1]
      refine EvP.bind (EvP.of (P := fun a => a = hasCard out (x : Int)) (spec_HasCard_ev out (x : Int) (by omega)) rfl) (fun a ha => EvP.ite (fun _ => ?_) (fun _ => EvP.pos (by omega) (hk _)))
      have e : Int.tmod (wrap64 ((x : Int) + 7)) 52 = (((x + 7) % 52 : Nat) : Int) := by
        rw [w64 _ (by omega), Int.tmod_eq_emod_of_nonneg (by omega)]; omega
      rw [e]
      refine ih _ (Nat.mod_lt _ (by omega)) ?_
      have e2 : ((x + 7) % 52 + 7 * d) % 52 = (x + 7 * (d + 1)) % 52 := by omega
      rw [e2]; exact hd
  have l0 : ∀ (d : Nat) (out : List Int) (j i h : Int), 0 ≤ j → (d : Int) = max 0 (n - j) → (out.length : Int) = j → j ≤ max 0 n → Cur b i → EvP (fun k => spec_l5Some.l0 k n out j b i h) (fun r => r.1.length ≤ 40 ∧ Cur b r.2.1) := by
    intro d
    induction d with
    | zero =>
      intro out j i h hj hd ho hj2 hc
      refine EvP.unfold (fun k => rfl) ?_
      simp only [spec_l5Some.l0]
      exact EvP.neg (by omega) (EvP.now ⟨by simp only; omega, hc⟩)
    | succ d ih =>
      intro out j i h hj hd ho hj2 hc
      refine EvP.unfold (fun k => rfl) ?_
      simp only [spec_l5Some.l0]
      refine EvP.pos (by omega) (EvP.bind (spec_l1Below_ok b i h 52 hc (by omega)).ev (fun r hr => ?_))
      have h1 := hr.2.1 (by omega)
      have h0 := hr.1
      obtain ⟨x, hx⟩ : ∃ x : Nat, r.1 = (x : Int) := ⟨r.1.toNat, by omega⟩
      rw [hx]
      have hx2 : x < 52 := by omega
      obtain ⟨q, _, hq⟩ := seven_free out (by omega) x hx2
      refine l1 out j _ _ (by omega) (fun c => ?_) q x hx2 hq
      rw [w64 (j + 1) (by omega)]
      exact ih _ _ _ _ (by omega) (by omega) (by simp; omega) (by omega) hr.2.2.2
  simp only [spec_l5Some.f]
  exact l0 (max 0 n).toNat [] 0 i h (by omega) (by omega) rfl (by omega) hc

theorem spec_l5Any_ev (b : List Int) (i h : Int) (hc : Cur b i) : EvP (fun k => spec_l5Any.f k b i h) (fun r => r.1.length ≤ 40 ∧ Cur b r.2.1) := by
  simp only [spec_l5Any.f]
  refine EvP.bind (spec_l1Below_ok b i h 9 hc (by omega)).ev (fun r hr => ?_)
  have h1 := hr.2.1 (by omega)
  refine EvP.bind (spec_l5Some_ev b _ _ r.1 hr.2.2.2 (by omega)) (fun s hs => EvP.ite (fun hp => ?_) (fun _ => EvP.now hs))
  refine EvP.bind (spec_l1Once_ok b _ _ 10 hs.2 (by omega)).ev (fun t ht => EvP.ite (fun _ => ?_) (fun _ => EvP.now ⟨hs.1, ht⟩))
  have h2 := hs.1
  rw [w64 _ (by omega)]
  refine EvP.pos (by omega) (EvP.pos (by omega) (EvP.bind (spec_l1Int_ok b _ _ [_, 52, -1] ht (by simp) (by simp)).ev (fun u hu => EvP.pos (by omega) (EvP.now ⟨by simp only [List.length_set]; omega, hu.2⟩))))

theorem impl_RankOf_eq (c : Int) : impl_RankOf.f c = some (rankOf c) := by
  unfold impl_RankOf.f rankOf
  rw [impl_IsCard_eq]
  simp only [Option.bind_some]
  by_cases h : isCard c = true
  · rw [if_pos h, if_pos h, Int.tmod_eq_emod_of_nonneg ((isCard_iff c).1 h).1]
  · rw [if_neg h, if_neg h]

theorem impl_Beats_ev (a b t : Int) : Ev (fun k => impl_Beats.f k a b t) (beats a b t) := by
  have key : ∀ x, Ev (fun k => impl_Beats.j0 k a b t x) (if x = true then false else if suitOf a = suitOf b then decide (rankOf a > rankOf b) else suitOf a == t) := by
    intro x
    refine ev_unfold (fun k => rfl) ?_
    simp only [impl_Beats.j0, impl_SuitOf_eq, impl_RankOf_eq, Option.bind_some]
    cases x
    · refine ev_neg (by simp) ?_
      simp only [Bool.false_eq_true, if_false]
      refine ev_ite (fun h => ?_) (fun h => ?_)
      · rw [if_pos h]; exact Ev.now _
      · rw [if_neg h]; exact Ev.now _
    · exact ev_pos rfl (Ev.now _)
  simp only [impl_Beats.f, impl_IsCard_eq, Option.bind_some]
  unfold beats
  refine ev_ite (fun h => ?_) (fun h => ?_)
  · refine ev_done (key _) ?_
    rw [h]
    by_cases hb : isCard b = true
    · by_cases hs : suitOf a = suitOf b
      · simp only [hb, hs, Bool.not_true, Bool.false_eq_true, if_false, if_true, Bool.true_and]
        exact decide_eq_decide.2 (rank_gt h hb hs)
      · simp [hb, hs]
    · simp [hb]
  · refine ev_done (key _) ?_
    simp [h]

theorem impl_WinnerOf_ev (l : List Int) (t : Int) (hl : l.length ≤ 1048576000) : Ev (fun k => impl_WinnerOf.f k l t) (winnerOf l t) := by
  have l0 : 0 < l.length → ∀ st : Nat, st ≤ l.length → Ev (fun k => (fun k (s : Int) (i : Int) => impl_WinnerOf.l0 k l t s l (l.length : Int) i) k 0 (st : Int)) (winF l t 0 st (l.drop st)) := by
    intro hp st hst
    refine ev_done (ev_loopN (fun k (s : Int) i => impl_WinnerOf.l0 k l t s l (l.length : Int) i) l.length (fun s i => winF l t s i (l.drop i)) (fun s i => 0 ≤ s ∧ s < l.length) ?_ ?_ 0 st hst ⟨by omega, by omega⟩) rfl
    · rintro s _
      refine ev_unfold (fun k => rfl) ?_
      simp only [impl_WinnerOf.l0]
      refine ev_neg (by omega) (ev_ret ?_)
      rw [drop_end]; rfl
    · rintro s i hi ⟨h1, h2⟩ ih
      refine ev_unfold (fun k => rfl) ?_
      simp only [impl_WinnerOf.l0]
      rw [w64next i (by omega), rd_at l i hi, drop_at l i hi]
      refine ev_pos (by omega) (ev_pos (by omega) (ev_pos (by omega) (ev_pos (by omega) (ev_pos (by omega) (Ev.bind (impl_Beats_ev _ _ _) ?_)))))
      unfold winF
      rw [show (i : Int) + 1 = ((i + 1 : Nat) : Int) by omega]
      refine ev_ite (fun h3 => ?_) (fun h3 => ?_)
      · rw [if_pos h3]; exact ih _ ⟨by omega, by omega⟩
      · rw [if_neg h3]; exact ih _ ⟨h1, h2⟩
  have j0 : ∀ b, (b = false → 0 < l.length) → Ev (fun k => impl_WinnerOf.j0 k l t b) (if b = true then -1 else winF l t 0 0 l) := by
    intro b hb
    refine ev_unfold (fun k => rfl) ?_
    simp only [impl_WinnerOf.j0]
    refine ev_ite (fun h2 => ?_) (fun h2 => ?_)
    · rw [if_pos h2]; exact Ev.now _
    · rw [if_neg h2]
      have hp := hb (by simpa using h2)
      exact l0 hp 0 (by omega)
  simp only [impl_WinnerOf.f]
  unfold winnerOf
  refine ev_ite (fun h => ?_) (fun h => ?_)
  · rw [if_pos (by omega)]; exact ev_done (j0 true (fun z => by cases z)) rfl
  · rw [if_neg (by omega)]
    refine Ev.bind (impl_IsHand_ev l hl) (ev_done (j0 _ (fun _ => by omega)) ?_)
    cases isHand l <;> simp

theorem impl_IsFollowed_ev (h : List (List Int)) (t : List Int) (a : Int) (hl : h.length ≤ 1048576000) (hr : ∀ r ∈ h, r.length ≤ 1048576000) (tl : t.length ≤ 1048576000) : Ev (fun k => impl_IsFollowed.f k h t a) (isFollowed h t a) := by
  have j0 : ∀ b, (b = false → h.length = t.length ∧ 0 ≤ a ∧ a ≤ (h.length : Int) - 1) → Ev (fun k => impl_IsFollowed.j0 k h t a b) (!b && followF h a [] 0 t) := by
    intro b hb
    refine ev_unfold (fun k => rfl) ?_
    simp only [impl_IsFollowed.j0]
    refine ev_ite (fun h2 => ?_) (fun h2 => ?_)
    · rw [h2]; exact Ev.now _
    · rw [Bool.not_eq_true] at h2; rw [h2]
      obtain ⟨e1, e2, e3⟩ := hb h2
      refine ev_done (ev_loopN (fun k (_ : Unit) i => impl_IsFollowed.l0 k h t a t (t.length : Int) i) t.length (fun _ i => followF h a (t.take i) i (t.drop i)) (fun _ _ => True) ?_ ?_ () 0 (by omega) trivial) (by simp)
      · rintro s _
        refine ev_unfold (fun k => rfl) ?_
        simp only [impl_IsFollowed.l0]
        refine ev_neg (by omega) (ev_ret ?_)
        rw [drop_end]; rfl
      · rintro s i hi _ ih
        refine ev_unfold (fun k => rfl) ?_
        simp only [impl_IsFollowed.l0]
        rw [w64next i (by omega), rd_at t i hi, drop_at t i hi, w64 (a + (i : Int)) (by omega), Int.toNat_natCast]
        have hm : 0 ≤ (a + (i : Int)).tmod (h.length : Int) ∧ (a + (i : Int)).tmod (h.length : Int) < (h.length : Int) := by
          rw [Int.tmod_eq_emod_of_nonneg (by omega)]
          exact ⟨Int.emod_nonneg _ (by omega), Int.emod_lt_of_pos _ (by omega)⟩
        have hrow : (rd_L2 h ((a + (i : Int)).tmod (h.length : Int))).length ≤ 1048576000 := lineAt_length hr _
        have ht : (t.take i).length ≤ 1048576000 := by simp; omega
        refine ev_pos (by omega) (ev_pos (by omega) (ev_pos (by omega) (ev_neg (by omega) (ev_pos hm.1 (ev_pos hm.2 (ev_pos (by omega) (Ev.bind (impl_MayPlay_ev _ _ _ hrow ht) ?_)))))))
        unfold followF
        have er : rd_L2 h ((a + (i : Int)).tmod (h.length : Int)) = lineAt h ((a + (i : Int)).tmod (h.length : Int)) := rfl
        rw [er, ← take_at t i hi, show (i : Int) + 1 = ((i + 1 : Nat) : Int) by omega]
        refine ev_ite (fun h3 => ev_done (ih () trivial) ?_) (fun h3 => ev_ret ?_)
        · rw [h3, Bool.true_and]
        · rw [Bool.not_eq_true] at h3; rw [h3, Bool.false_and]
  simp only [impl_IsFollowed.f, impl_InRange_eq, Option.bind_some]
  unfold isFollowed
  refine ev_ite (fun h2 => ?_) (fun h2 => ev_done (j0 _ (fun z => by cases z)) ?_)
  · rw [w64 ((h.length : Int) - 1) (by omega)]
    refine ev_done (j0 _ (fun z => ?_)) ?_
    · have := (inR_iff _ _ _).1 (by simpa using z); exact ⟨by omega, this⟩
    · rw [show decide (h.length = t.length) = true from decide_eq_true (by omega)]; simp
  · rw [show decide (h.length = t.length) = false from decide_eq_false (by omega)]; rfl

theorem impl_TrickPoints_ev (l : List Int) (hl : l.length ≤ 1048576000) : Ev (fun k => impl_TrickPoints.f k l) (pointsW 0 l) := by
  simp only [impl_TrickPoints.f]
  refine ev_loop (fun k (s : Int) i => impl_TrickPoints.l0 k s l (l.length : Int) i) l (fun s r => pointsW s r) (fun s _ => -9223372036854775808 ≤ s ∧ s ≤ 9223372036854775807) ?_ ?_ 0 0 (by omega) (by omega)
  · rintro s _
    refine ev_unfold (fun k => rfl) ?_
    simp only [impl_TrickPoints.l0]
    exact ev_neg (by omega) (ev_ret rfl)
  · rintro s i hi hs ih
    refine ev_unfold (fun k => rfl) ?_
    simp only [impl_TrickPoints.l0]
    refine ev_pos (by omega) (ev_pos (by omega) (ev_pos (by omega) (ev_eq (impl_RankOf_eq _) ?_)))
    rw [w64next i (by omega), rd_at l i hi]
    have hw : ∀ x : Int, wrap64 (s + pointOf l[i]) = x → -9223372036854775808 ≤ x ∧ x ≤ 9223372036854775807 → Ev (fun k => (fun (s : Int) i => impl_TrickPoints.l0 k s l (l.length : Int) i) x ((i + 1 : Nat) : Int)) (pointsW s (l[i] :: l.drop (i + 1))) := by
      intro x hx hr
      refine ev_done (ih x hr) ?_
      show _ = pointsW (wrap64 (s + pointOf l[i])) _
      rw [hx]
    have hr : ∀ y : Int, -9223372036854775808 ≤ wrap64 y ∧ wrap64 y ≤ 9223372036854775807 := fun y => by unfold wrap64; omega
    repeat' (refine ev_ite (fun _ => ?_) (fun _ => ?_))
    all_goals first | exact hw _ (by unfold pointOf; congr 2; omega) (hr _) | exact hw _ (by unfold pointOf; rw [if_neg (by assumption), if_neg (by assumption), if_neg (by assumption), if_neg (by assumption), if_neg (by assumption), Int.add_zero, w64 _ hs]) hs

theorem beats_trans {a b c t : Int} (h : beats b a t = true) (h2 : ¬ beats c a t = true) : ¬ beats c b t = true := by
  unfold beats at h h2 ⊢
  simp only [Bool.and_eq_true] at h h2 ⊢
  obtain ⟨hb, ha, h3⟩ := h
  rintro ⟨hc, _, h4⟩
  refine h2 ⟨hc, ha, ?_⟩
  by_cases e1 : suitOf b = suitOf a
  · rw [if_pos e1] at h3
    by_cases e2 : suitOf c = suitOf b
    · rw [if_pos e2] at h4
      rw [if_pos (e2.trans e1)]
      simp only [decide_eq_true_eq] at h3 h4 ⊢
      omega
    · rw [if_neg e2] at h4
      rw [if_neg (fun e => e2 (e.trans e1.symm))]
      exact h4
  · rw [if_neg e1] at h3
    by_cases e2 : suitOf c = suitOf b
    · rw [if_neg (fun e => e1 (e2.symm.trans e)), e2]
      exact h3
    · rw [if_neg e2] at h4
      exact absurd ((beq_iff_eq.1 h4).trans (beq_iff_eq.1 h3).symm) e2
theorem beats_asym {a b t : Int} (h : beats a b t = true) : ¬ beats b a t = true := by
  unfold beats at h ⊢
  simp only [Bool.and_eq_true] at h ⊢
  obtain ⟨_, _, h3⟩ := h
  rintro ⟨_, _, h4⟩
  by_cases e1 : suitOf a = suitOf b
  · rw [if_pos e1] at h3
    rw [if_pos e1.symm] at h4
    simp only [decide_eq_true_eq] at h3 h4
    omega
  · rw [if_neg e1] at h3
    rw [if_neg (fun e => e1 e.symm)] at h4
    exact e1 ((beq_iff_eq.1 h3).trans (beq_iff_eq.1 h4).symm)
theorem winF_best (trick : List Int) (t : Int) : ∀ (r pre : List Int) (k : Int), trick = pre ++ r → (0 ≤ k ∧ k < (trick.length : Int)) → (∀ c ∈ pre, ¬ beats c (rd trick k) t = true) →
    (0 ≤ winF trick t k (pre.length : Int) r ∧ winF trick t k (pre.length : Int) r < (trick.length : Int)) ∧ ∀ c ∈ trick, ¬ beats c (rd trick (winF trick t k (pre.length : Int) r)) t = true := by
  intro r
  induction r with
  | nil =>
    intro pre k h hk hb
    rw [List.append_nil] at h
    unfold winF
    exact ⟨hk, fun c hc => hb c (h ▸ hc)⟩
  | cons c r ih =>
    intro pre k h hk hb
    have hlen : trick.length = pre.length + (r.length + 1) := by rw [h]; simp
    have hc : rd trick (pre.length : Int) = c := by
      rw [rd_at trick pre.length (by omega)]
      simp [h]
    unfold winF
    have e : (pre.length : Int) + 1 = ((pre ++ [c]).length : Int) := by simp
    rw [e]
    refine ih (pre ++ [c]) _ (by rw [h]; simp) ?_ ?_
    · split <;> omega
    · intro x hx
      by_cases hbt : beats c (rd trick k) t = true
      · rw [if_pos hbt, hc]
        rcases List.mem_append.1 hx with hx | hx
        · exact beats_trans hbt (hb x hx)
        · rw [List.mem_singleton.1 hx, beats_self]; simp
      · rw [if_neg hbt]
        rcases List.mem_append.1 hx with hx | hx
        · exact hb x hx
        · rw [List.mem_singleton.1 hx]; exact hbt
theorem winner_best {trick : List Int} {t : Int} (h : 0 ≤ winnerOf trick t) : winnerOf trick t < (trick.length : Int) ∧ ∀ c ∈ trick, ¬ beats c (rd trick (winnerOf trick t)) t = true := by
  unfold winnerOf at h ⊢
  by_cases h0 : trick.length = 0
  · rw [if_pos h0] at h; omega
  rw [if_neg h0] at h ⊢
  by_cases h1 : isHand trick = true
  · rw [if_pos h1] at h ⊢
    have := winF_best trick t trick [] 0 rfl (by omega) (by simp)
    exact ⟨this.1.2, this.2⟩
  · rw [if_neg h1] at h; omega
theorem winner_iff (trick : List Int) (t : Int) : 0 ≤ winnerOf trick t ↔ trick.length ≠ 0 ∧ isHand trick = true := by
  unfold winnerOf
  by_cases h0 : trick.length = 0
  · rw [if_pos h0]
    exact ⟨fun h => absurd h (by omega), fun h => absurd h0 h.1⟩
  rw [if_neg h0]
  by_cases h1 : isHand trick = true
  · rw [if_pos h1]
    have := winF_best trick t trick [] 0 rfl (by omega) (by simp)
    exact ⟨fun _ => ⟨h0, h1⟩, fun _ => this.1.1⟩
  · rw [if_neg h1]
    exact ⟨fun h => absurd h (by omega), fun h => absurd h.2 h1⟩
theorem followF_in (hands : List (List Int)) (leader : Int) : ∀ (r pre : List Int) (i : Int), followF hands leader pre i r = true → ∀ (j : Nat) (hj : j < r.length), r[j] ∈ lineAt hands ((leader + (i + (j : Int))).tmod (hands.length : Int)) := by
  intro r
  induction r with
  | nil => intro _ _ _ j hj; exact absurd hj (Nat.not_lt_zero j)
  | cons c r ih =>
    intro pre i h j hj
    unfold followF at h
    rw [Bool.and_eq_true] at h
    cases j with
    | zero =>
      have h1 := h.1
      unfold mayPlay hasCard at h1
      simp only [Bool.and_eq_true, decide_eq_true_eq] at h1
      rw [show leader + (i + ((0 : Nat) : Int)) = leader + i by omega]
      exact h1.2.1
    | succ j =>
      have := ih _ _ h.2 j (by simpa using hj)
      rw [show leader + (i + ((j + 1 : Nat) : Int)) = leader + (i + 1 + (j : Int)) by omega]
      exact this
theorem choices_mem {h t : List Int} {c : Int} (hc : c ∈ choices h t) : c ∈ h := (sorted_perm h).mem_iff.1 (List.mem_filter.1 hc).1
theorem choices_ne {h : List Int} (t : List Int) (hh : isHand h = true) (h0 : h ≠ []) : choices h t ≠ [] := by
  have ⟨c, hc, hm⟩ : ∃ c ∈ h, mayPlay h t c = true := by
    unfold mayPlay hasCard
    by_cases ha : ∃ x ∈ h, suitOf x = suitOf (rd t 0)
    · obtain ⟨x, hx, hs⟩ := ha
      exact ⟨x, hx, by simp [hh, hx, hs]⟩
    · obtain ⟨x, r, e⟩ := List.exists_cons_of_ne_nil h0
      have hx : x ∈ h := by rw [e]; simp
      refine ⟨x, hx, ?_⟩
      have : (h.all fun y => !decide (suitOf y = suitOf (rd t 0))) = true := by
        rw [List.all_eq_true]
        intro y hy
        simp only [Bool.not_eq_true', decide_eq_false_iff_not]
        exact fun e => ha ⟨y, hy, e⟩
      simp [hh, hx, this]
  have : c ∈ choices h t := List.mem_filter.2 ⟨(sorted_perm h).mem_iff.2 hc, hm⟩
  exact fun e => by rw [e] at this; cases this
def deck52 : List Int := (List.range 52).map fun (i : Nat) => (i : Int)
theorem deck52_hand : isHand deck52 = true := by decide +kernel
theorem spec_FullDeck_all : Ev (fun k => spec_FullDeck.f k) deck52 := by
  have key : ∀ (d i : Nat), i + d = 52 → Ev (fun k => spec_Missing.l0 k [] ((List.range i).map fun (i : Nat) => (i : Int)) (i : Int)) deck52 := by
    intro d
    induction d with
    | zero =>
      intro i hd
      obtain rfl : i = 52 := by omega
      refine ev_unfold (fun k => rfl) ?_
      simp only [spec_Missing.l0]
      exact ev_neg (by omega) (ev_ret rfl)
    | succ d ih =>
      intro i hd
      refine ev_unfold (fun k => rfl) ?_
      simp only [spec_Missing.l0]
      rw [w64next i (by omega)]
      refine ev_pos (by omega) (Ev.bind (spec_HasCard_ev [] (i : Int) (by simp)) ?_)
      refine ev_neg (by simp [hasCard]) (ev_pos (by simp; omega) ?_)
      have := ih (i + 1) (by omega)
      rw [List.range_succ, List.map_append] at this
      exact this
  simp only [spec_FullDeck.f, spec_Missing.f]
  refine Ev.bind (key 52 0 (by omega)) (Ev.now _)
theorem spec_Shuffled_perm (l : List Int) (seed : Int) (hl : l.length ≤ 1048576000) : EvP (fun k => spec_Shuffled.f k l seed) (fun r => r.Perm l) := by
  have key : ∀ (d : Nat) (w : List Int) (i : Int), (d : Int) = max 0 i → i < max 1 (w.length : Int) → w.Perm l → EvP (fun k => spec_Shuffled.l0 k seed w i) (fun r => r.Perm l) := by
    intro d
    induction d with
    | zero =>
      intro w i hd hi hw
      refine EvP.unfold (fun k => rfl) ?_
      simp only [spec_Shuffled.l0]
      exact EvP.neg (by omega) (EvP.now hw)
    | succ d ih =>
      intro w i hd hi hw
      have hwl := hw.length_eq
      refine EvP.unfold (fun k => rfl) ?_
      simp only [spec_Shuffled.l0, spec_Mod_eq, Option.bind_some]
      rw [w64 (i + 1) (by omega), w64 (i - 1) (by omega)]
      refine EvP.pos (by omega) (EvP.bind (spec_Hash_ev [seed, i] (by simp)) (fun r _ => ?_))
      have hm := modF_range (p := r) (q := i + 1) (by omega)
      refine EvP.pos (by omega) (EvP.pos (by omega) (EvP.pos (by omega) (EvP.pos (by omega) (ih _ _ (by omega) ?_ ?_))))
      · simp only [List.length_set]; omega
      · refine List.Perm.trans ?_ hw
        obtain ⟨a, ha⟩ : ∃ a : Nat, i = (a : Int) := ⟨i.toNat, by omega⟩
        obtain ⟨c, hc⟩ : ∃ c : Nat, modF r (i + 1) = (c : Int) := ⟨(modF r (i + 1)).toNat, by omega⟩
        rw [hc, ha, Int.toNat_natCast, Int.toNat_natCast, rd_at w a (by omega), rd_at w c (by omega)]
        exact List.set_set_perm (by omega) (by omega)
  simp only [spec_Shuffled.f, Option.bind_some, List.length_nil, List.nil_append]
  refine EvP.pos (by omega) ?_
  rw [w64 _ (by omega)]
  exact key (max 0 ((l.length : Int) - 1)).toNat l _ (by omega) (by omega) (List.Perm.refl l)
/-- Rows that a player may hold. -/
def Held (h : List (List Int)) : Prop := (2 ≤ h.length ∧ h.length ≤ 4) ∧ ∀ r ∈ h, isHand r = true ∧ r ≠ [] ∧ r.length ≤ 6
theorem rdss_mem {h : List (List Int)} {q : Int} (h0 : 0 ≤ q) (h1 : q < (h.length : Int)) : rd_L2 h q ∈ h := by
  obtain ⟨a, rfl⟩ : ∃ a : Nat, q = (a : Int) := ⟨q.toNat, by omega⟩
  rw [rdss_at h a (by omega)]
  exact List.getElem_mem _
theorem spec_l11Case_ev (b : List Int) (i h : Int) (hc : Cur b i) : EvP (fun k => spec_l11Case.f k b i h) (fun r => Held r.1 ∧ r.2.1.length = r.1.length ∧ (0 ≤ r.2.2.1 ∧ r.2.2.1 < (r.1.length : Int)) ∧ Cur b r.2.2.2.1) := by
  have loop : ∀ (hs : List (List Int)) (lead : Int), Held hs → 0 ≤ lead → lead < (hs.length : Int) → ∀ (d j : Nat) (w : List Int) (x y : Int), j + d = hs.length → w.length = j → Cur b x →
      EvP (fun k => spec_l11Case.l0 k hs lead w (j : Int) b x y) (fun r => Held r.1 ∧ r.2.1.length = r.1.length ∧ (0 ≤ r.2.2.1 ∧ r.2.2.1 < (r.1.length : Int)) ∧ Cur b r.2.2.2.1) := by
    intro hs lead hh h0 h1 d
    obtain ⟨hb, hr⟩ := hh
    induction d with
    | zero =>
      intro j w x y hd hw hx
      refine EvP.unfold (fun k => rfl) ?_
      simp only [spec_l11Case.l0]
      exact EvP.neg (by omega) (EvP.now ⟨⟨hb, hr⟩, by simp only; omega, ⟨h0, h1⟩, hx⟩)
    | succ d ih =>
      intro j w x y hd hw hx
      refine EvP.unfold (fun k => rfl) ?_
      simp only [spec_l11Case.l0]
      rw [w64next j (by omega), w64 (lead + (j : Int)) (by omega)]
      have hq := tmod_range (x := lead + (j : Int)) (n := (hs.length : Int)) (by omega) (by omega)
      generalize Int.tmod (lead + (j : Int)) (hs.length : Int) = q at hq ⊢
      have hm := hr _ (rdss_mem hq.1 hq.2)
      generalize rd_L2 hs q = row at hm ⊢
      obtain ⟨g1, g2, g3⟩ := hm
      have hcl := choices_length row w
      have hcn := choices_ne w g1 g2
      have hcp : 0 < (choices row w).length := List.length_pos_iff.2 hcn
      have hrp : 0 < row.length := List.length_pos_iff.2 g2
      refine EvP.pos (by omega) (EvP.neg (by omega) (EvP.pos (by omega) (EvP.pos (by omega) ?_)))
      refine EvP.bind (EvP.of (P := fun a => a = choices row w) (spec_Choices_ev row w (by omega) (by omega)) rfl) (fun a ha => ?_)
      subst ha
      refine EvP.bind (spec_l1Once_ok b x y 8 hx (by omega)).ev (fun s hs2 => EvP.ite (fun _ => ?_) (fun _ => ?_))
      · refine EvP.bind (spec_l1Below_ok b _ _ (row.length : Int) hs2 (by omega)).ev (fun u hu => ?_)
        have := hu.2.1 (by omega)
        exact EvP.pos hu.1 (EvP.pos this (EvP.pos (by omega) (ih (j + 1) _ _ _ (by omega) (by simp; omega) hu.2.2.2)))
      · refine EvP.bind (spec_l1Below_ok b _ _ ((choices row w).length : Int) hs2 (by omega)).ev (fun u hu => ?_)
        have := hu.2.1 (by omega)
        exact EvP.pos hu.1 (EvP.pos this (EvP.pos (by omega) (ih (j + 1) _ _ _ (by omega) (by simp; omega) hu.2.2.2)))
  simp only [spec_l11Case.f]
  refine EvP.bind (EvP.of (P := fun a => a = deck52) spec_FullDeck_all rfl) (fun d hd => ?_)
  subst hd
  have dl : deck52.length = 52 := by decide
  refine EvP.bind (spec_l1Below_ok b i h 999 hc (by omega)).ev (fun s1 c1 => EvP.bind (spec_Shuffled_perm deck52 s1.1 (by omega)) (fun dk hp => ?_))
  refine EvP.bind (spec_l1Below_ok b _ _ 3 c1.2.2.2 (by omega)).ev (fun s2 c2 => EvP.bind (spec_l1Below_ok b _ _ 6 c2.2.2.2 (by omega)).ev (fun s3 c3 => ?_))
  have b2 := c2.2.1 (by omega)
  have b3 := c3.2.1 (by omega)
  have b20 := c2.1
  have b30 := c3.1
  have dkl : dk.length = 52 := by rw [hp.length_eq, dl]
  have dh := (isHand_iff deck52).1 deck52_hand
  have hdk : isHand dk = true := (isHand_iff dk).2 ⟨fun x hx => dh.1 x (hp.mem_iff.1 hx), hp.nodup_iff.2 dh.2⟩
  rw [w64 (2 + s2.1) (by omega), w64 (1 + s3.1) (by omega)]
  obtain ⟨n, hn⟩ : ∃ n : Nat, 2 + s2.1 = (n : Int) := ⟨(2 + s2.1).toNat, by omega⟩
  obtain ⟨m, hm⟩ : ∃ m : Nat, 1 + s3.1 = (m : Int) := ⟨(1 + s3.1).toNat, by omega⟩
  rw [hn, hm]
  have hnm : m * n ≤ 24 := Nat.mul_le_mul (by omega : m ≤ 6) (by omega : n ≤ 4)
  have hnm2 : (n : Int) * (m : Int) = ((m * n : Nat) : Int) := by rw [Int.natCast_mul, Int.mul_comm]
  have hcan : canDeal dk (n : Int) (m : Int) = true := by
    unfold canDeal
    rw [hdk, (inR_iff _ _ _).2 ⟨by omega, by omega⟩, (inR_iff _ _ _).2 ⟨by omega, by omega⟩, hnm2, decide_eq_true (by omega)]
    rfl
  have hdeal : (dealt dk (n : Int) (m : Int)).1 = dealRows dk n m 0 := by
    unfold dealt
    rw [if_pos hcan, Int.toNat_natCast, Int.toNat_natCast]
  refine EvP.bind (EvP.of (P := fun a => a = dealt dk (n : Int) (m : Int)) (spec_Dealt_ev dk _ _ (by omega)) rfl) (fun a ha => ?_)
  subst ha
  rw [hdeal]
  have hperm := deal_perm dk n m 0 (by omega) (by omega)
  rw [Nat.add_zero] at hperm
  have hrl : (dealRows dk n m 0).length = n := dealRows_length _ _ _ _
  have hheld : Held (dealRows dk n m 0) := by
    refine ⟨by omega, fun r hr => ?_⟩
    have hdk2 := (isHand_iff dk).1 hdk
    have hlen : r.length = m := by
      unfold dealRows at hr
      obtain ⟨q, _, rfl⟩ := List.mem_map.1 hr
      rw [dealRow_len, if_neg (Nat.not_lt_zero q)]
    have hfl : ((dealRows dk n m 0).flatten).Nodup := hperm.nodup_iff.2 (hdk2.2.sublist (List.take_sublist _ _))
    have hnd : r.Nodup := hfl.sublist (List.sublist_flatten_of_mem hr)
    refine ⟨(isHand_iff r).2 ⟨fun x hx => hdk2.1 x (List.mem_of_mem_take (hperm.mem_iff.1 (List.mem_flatten_of_mem hr hx))), hnd⟩, ?_, by omega⟩
    intro e
    rw [e] at hlen
    simp at hlen
    omega
  generalize dealRows dk n m 0 = hs at hheld hrl ⊢
  refine EvP.bind (spec_l1Below_ok b _ _ (hs.length : Int) c3.2.2.2 (by omega)).ev (fun s4 c4 => ?_)
  exact loop hs s4.1 hheld c4.1 (c4.2.1 (by omega)) hs.length 0 [] _ _ (by omega) rfl c4.2.2.2
theorem spec_l4Card_ok (b : List Int) (i h : Int) (hc : Cur b i) : OkP (spec_l4Card.f b i h) (fun r => Cur b r.2.1) := by
  unfold spec_l4Card.f
  exact (spec_l1Below_ok b i h 52 hc (by omega)).bind (fun r hr => (spec_l1Below_ok b _ _ 52 hr.2.2.2 (by omega)).bind (fun s hs => (spec_l1Below_ok b _ _ 52 hs.2.2.2 (by omega)).bind (fun t ht => (spec_l1Int_ok b _ _ _ ht.2.2.2 (by simp) (by simp)).bind (fun u hu => OkP.now hu.2))))
theorem spec_DrawChoices_ev (l : List Int) (hl : l.length ≤ 140737488351232) : EvP (fun k => spec_DrawChoices.f k l) (fun r => (isHand r.1 = true ∧ r.1 ≠ [] ∧ r.1.length ≤ 6) ∧ r.2.length ≤ 4) := by
  simp only [spec_DrawChoices.f]
  suffices hs : EvP (fun k => spec_DrawMayPlay.f k l) (fun r => (isHand r.1 = true ∧ r.1 ≠ [] ∧ r.1.length ≤ 6) ∧ r.2.1.length ≤ 4) from EvP.bind hs (fun r hr => EvP.now hr)
  simp only [spec_DrawMayPlay.f]
  refine EvP.bind (spec_l1New_ev l hl) (fun c hc => ?_)
  have hc2 := hc.2
  rw [← hc.1] at hc2
  refine EvP.bind (spec_l11Case_ev c.1 _ _ hc2) (fun a ha => ?_)
  obtain ⟨⟨ab, ar⟩, at1, _, ac⟩ := ha
  refine EvP.bind (spec_l1Below_ok c.1 _ _ (a.2.1.length : Int) ac (by omega)).ev (fun u hu => ?_)
  have hu1 := hu.2.1 (by omega)
  have hu0 := hu.1
  have h0 : rd_L2 a.1 0 ∈ a.1 := rdss_mem (by omega) (by omega)
  have hrow := ar _ h0
  generalize rd_L2 a.1 0 = row at hrow ⊢
  have hrp : 0 < row.length := List.length_pos_iff.2 hrow.2.1
  have hrl := hrow.2.2
  refine EvP.bind (spec_l1Once_ok c.1 _ _ 6 hu.2.2.2 (by omega)).ev (fun v hv => EvP.ite (fun _ => ?_) (fun _ => ?_))
  · refine EvP.pos (by omega) (EvP.pos (by omega) (EvP.pos (by omega) (EvP.bind (spec_l4Card_ok c.1 _ _ hv).ev (fun x _ => EvP.now ⟨hrow, ?_⟩))))
    simp only [List.length_take]; omega
  · refine EvP.pos (by omega) (EvP.pos (by omega) (EvP.pos (by omega) (EvP.bind (spec_l1Below_ok c.1 _ _ (row.length : Int) hv (by omega)).ev (fun x hx => ?_))))
    refine EvP.pos hx.1 (EvP.pos (hx.2.1 (by omega)) (EvP.now ⟨hrow, ?_⟩))
    simp only [List.length_take]; omega
theorem spec_DrawWinnerOf_ev (l : List Int) (hl : l.length ≤ 140737488351232) : EvP (fun k => spec_DrawWinnerOf.f k l) (fun r => r.1.length ≤ 40) := by
  simp only [spec_DrawWinnerOf.f]
  refine EvP.bind (spec_l1New_ev l hl) (fun c hc => ?_)
  have hc2 := hc.2
  rw [← hc.1] at hc2
  refine EvP.bind (spec_l11Case_ev c.1 _ _ hc2) (fun a ha => ?_)
  obtain ⟨⟨ab, ar⟩, at1, _, ac⟩ := ha
  refine EvP.bind (spec_l1Once_ok c.1 _ _ 8 ac (by omega)).ev (fun v hv => EvP.ite (fun _ => ?_) (fun _ => ?_))
  · exact EvP.bind (spec_l5Any_ev c.1 _ _ hv) (fun u hu => EvP.bind (spec_l1Below_ok c.1 _ _ 6 hu.2 (by omega)).ev (fun x _ => EvP.now hu.1))
  · exact EvP.bind (spec_l1Below_ok c.1 _ _ 6 hv (by omega)).ev (fun x _ => EvP.now (by simp only; omega))
theorem spec_DrawBeats_ev (l : List Int) (hl : l.length ≤ 140737488351232) : EvP (fun k => spec_DrawBeats.f k l) (fun _ => True) := by
  simp only [spec_DrawBeats.f]
  refine EvP.bind (spec_l1New_ev l hl) (fun c hc => ?_)
  have hc2 := hc.2
  rw [← hc.1] at hc2
  exact EvP.bind (spec_l4Card_ok c.1 _ _ hc2).ev (fun u hu => EvP.bind (spec_l4Card_ok c.1 _ _ hu).ev (fun v hv => EvP.bind (spec_l1Below_ok c.1 _ _ 6 hv (by omega)).ev (fun x _ => EvP.now trivial)))
theorem spec_DrawTrickPoints_ev (l : List Int) (hl : l.length ≤ 140737488351232) : EvP (fun k => spec_DrawTrickPoints.f k l) (fun r => r.length ≤ 40) := by
  simp only [spec_DrawTrickPoints.f, spec_DrawIsHand.f]
  suffices hs : EvP (fun k => (spec_l1New.f k l).bind fun c => ((spec_l5Any.f k c.1 c.2.1 c.2.2).bind fun r => some r.1)) (fun r => r.length ≤ 40) from EvP.bind hs (fun r hr => EvP.now hr)
  refine EvP.bind (spec_l1New_ev l hl) (fun c hc => ?_)
  have hc2 := hc.2
  rw [← hc.1] at hc2
  exact EvP.bind (spec_l5Any_ev c.1 _ _ hc2) (fun u hu => EvP.now hu.1)
theorem spec_DrawIsFollowed_ev (l : List Int) (hl : l.length ≤ 140737488351232) : EvP (fun k => spec_DrawIsFollowed.f k l) (fun r => Held r.1 ∧ r.2.1.length = r.1.length) := by
  simp only [spec_DrawIsFollowed.f]
  refine EvP.bind (spec_l1New_ev l hl) (fun c hc => ?_)
  have hc2 := hc.2
  rw [← hc.1] at hc2
  exact EvP.bind (spec_l11Case_ev c.1 _ _ hc2) (fun a ha => EvP.now ⟨ha.1, ha.2.1⟩)
theorem laws_contains_ev (l : List Int) (c : Int) (hl : l.length ≤ 1048576) (h : c ∈ l) : Ev (fun k => laws_contains.f k l c) true := by
  simp only [laws_contains.f]
  have key : ∀ (d i : Nat), i + d = l.length → c ∈ l.drop i → Ev (fun k => laws_contains.l0 k l c (i : Int)) true := by
    intro d
    induction d with
    | zero =>
      intro i hd hm
      rw [List.drop_of_length_le (by omega)] at hm
      cases hm
    | succ d ih =>
      intro i hd hm
      refine ev_unfold (fun k => rfl) ?_
      simp only [laws_contains.l0]
      rw [w64next i (by omega), rd_at l i (by omega)]
      refine ev_pos (by omega) (ev_pos (by omega) (ev_ite (fun _ => Ev.now _) (fun h2 => ih (i + 1) (by omega) ?_)))
      rw [List.drop_eq_getElem_cons (by omega)] at hm
      rcases List.mem_cons.1 hm with e | e
      · exact absurd e.symm h2
      · exact e
  exact key l.length 0 (by omega) (by simpa using h)
theorem laws_within_ev (a l : List Int) (al : a.length ≤ 1048576) (hl : l.length ≤ 1048576) (h : ∀ c ∈ a, c ∈ l) : Ev (fun k => laws_within.f k a l) true := by
  simp only [laws_within.f]
  have key : ∀ (d i : Nat), i + d = a.length → Ev (fun k => laws_within.l0 k a l (i : Int)) true := by
    intro d
    induction d with
    | zero =>
      intro i hd
      refine ev_unfold (fun k => rfl) ?_
      simp only [laws_within.l0]
      exact ev_neg (by omega) (Ev.now _)
    | succ d ih =>
      intro i hd
      refine ev_unfold (fun k => rfl) ?_
      simp only [laws_within.l0]
      rw [w64next i (by omega), rd_at a i (by omega)]
      exact ev_pos (by omega) (ev_pos (by omega) (Ev.bind (laws_contains_ev l _ hl (h _ (List.getElem_mem _))) (ev_pos rfl (ih (i + 1) (by omega)))))
  exact key a.length 0 (by omega)
theorem pointsW_nonneg (l : List Int) : ∀ s : Int, 0 ≤ s → s + 11 * (l.length : Int) ≤ 4611686018427387904 → 0 ≤ pointsW s l := by
  induction l with
  | nil => intro s h _; exact h
  | cons c r ih =>
    intro s h0 h1
    have hp : 0 ≤ pointOf c ∧ pointOf c ≤ 11 := by unfold pointOf; repeat' split <;> omega
    have e : pointsW s (c :: r) = pointsW (wrap64 (s + pointOf c)) r := rfl
    rw [List.length_cons] at h1
    rw [e, w64 _ (by omega)]
    exact ih _ (by omega) (by omega)
theorem FnTricks : laws_FnTricks.Pure := by
  intro b hb _ _
  refine Ev.rounds ?_
  simp only [laws_FnTricks.f, laws_big_eq, Option.bind_some]
  refine ev_ite (fun _ => Ev.now _) (fun h => ?_)
  simp only [decide_eq_true_eq] at h
  have fin : ∀ (x y t : Int) (p : List Int), p.length ≤ 40 → Ev (fun k => (impl_Beats.f k x y t).bind fun t500 => (if t500 = true then ((impl_Beats.f k y x t).bind fun t501 => (if t501 = true then (some false) else ((impl_TrickPoints.f k p).bind fun t502 => (some (decide (t502 ≥ 0)))))) else ((impl_TrickPoints.f k p).bind fun t503 => (some (decide (t503 ≥ 0)))))) true := by
    intro x y t p hp
    have hpt : Ev (fun k => (impl_TrickPoints.f k p).bind fun t503 => (some (decide (t503 ≥ 0)))) true := Ev.bind (impl_TrickPoints_ev p (by omega)) (ev_ret (decide_eq_true (pointsW_nonneg p 0 (by omega) (by omega))))
    refine Ev.bind (impl_Beats_ev x y t) (ev_ite (fun hb => Ev.bind (impl_Beats_ev y x t) (ev_neg (beats_asym hb) hpt)) (fun _ => hpt))
  have l1 : ∀ (x y t : Int) (p : List Int) (hs : List (List Int)) (tr : List Int) (lead : Int), p.length ≤ 40 → Held hs → tr.length = hs.length → isFollowed hs tr lead = true → ∀ (d i : Nat), i + d = tr.length → Ev (fun k => laws_FnTricks.l1 k x y t p hs tr lead (i : Int)) true := by
    intro x y t p hs tr lead hp hh htl hf d
    obtain ⟨hb, hr⟩ := hh
    unfold isFollowed at hf
    rw [Bool.and_eq_true, Bool.and_eq_true] at hf
    have hld := (inR_iff _ _ _).1 hf.2.1
    have hin := followF_in hs lead tr [] 0 hf.2.2
    induction d with
    | zero =>
      intro i hd
      refine ev_unfold (fun k => rfl) ?_
      simp only [laws_FnTricks.l1]
      exact ev_neg (by omega) (fin x y t p hp)
    | succ d ih =>
      intro i hd
      refine ev_unfold (fun k => rfl) ?_
      simp only [laws_FnTricks.l1]
      have hi := hin i (by omega)
      rw [w64next i (by omega), rd_at tr i (by omega), w64 (lead + (i : Int)) (by omega)]
      have hq := tmod_range (x := lead + (i : Int)) (n := (hs.length : Int)) (by omega) (by omega)
      rw [show lead + (0 + (i : Int)) = lead + (i : Int) by omega] at hi
      generalize Int.tmod (lead + (i : Int)) (hs.length : Int) = q at hq hi ⊢
      have hrow := hr _ (rdss_mem hq.1 hq.2)
      have hmem : tr[i]'(by omega) ∈ rd_L2 hs q := hi
      refine ev_pos (by omega) (ev_neg (by omega) (ev_pos hq.1 (ev_pos hq.2 (ev_pos (by omega) (Ev.bind (impl_HasCard_ev _ _ (by omega)) (ev_pos ?_ (ih (i + 1) (by omega))))))))
      unfold hasCard
      exact decide_eq_true hmem
  have tail : Ev (fun k => (spec_DrawBeats.f k b).bind fun bt483 => ((spec_DrawTrickPoints.f k b).bind fun t486 => ((spec_DrawIsFollowed.f k b).bind fun bt489 => ((impl_IsFollowed.f k bt489.1 bt489.2.1 bt489.2.2).bind fun t496 => (if t496 = true then (laws_FnTricks.l1 k bt483.1 bt483.2.1 bt483.2.2 t486 bt489.1 bt489.2.1 bt489.2.2 0) else ((impl_Beats.f k bt483.1 bt483.2.1 bt483.2.2).bind fun t504 => (if t504 = true then ((impl_Beats.f k bt483.2.1 bt483.1 bt483.2.2).bind fun t505 => (if t505 = true then (some false) else ((impl_TrickPoints.f k t486).bind fun t506 => (some (decide (t506 ≥ 0)))))) else ((impl_TrickPoints.f k t486).bind fun t507 => (some (decide (t507 ≥ 0)))))))))) ) true := by
    refine EvP.use (spec_DrawBeats_ev b (by omega)) (fun u _ => EvP.use (spec_DrawTrickPoints_ev b (by omega)) (fun p hp => EvP.use (spec_DrawIsFollowed_ev b (by omega)) (fun f hf => ?_)))
    obtain ⟨⟨hb, hr⟩, htl⟩ := hf
    refine Ev.bind (impl_IsFollowed_ev f.1 f.2.1 f.2.2 (by omega) (fun r hrr => by have := (hr r hrr).2.2; omega) (by omega)) (ev_ite (fun hfo => ?_) (fun _ => fin _ _ _ p hp))
    exact l1 _ _ _ p f.1 f.2.1 f.2.2 hp ⟨hb, hr⟩ htl hfo f.2.1.length 0 (by omega)
  have l0 : ∀ (tr : List Int) (t : Int), tr.length ≤ 40 → ∀ (d i : Nat), i + d = tr.length → Ev (fun k => laws_FnTricks.l0 k b tr t (winnerOf tr t) (i : Int)) true := by
    intro tr t htl d
    induction d with
    | zero =>
      intro i hd
      refine ev_unfold (fun k => rfl) ?_
      simp only [laws_FnTricks.l0]
      refine ev_neg (by omega) (ev_unfold (fun k => rfl) ?_)
      simp only [laws_FnTricks.j3]
      exact ev_neg (by simp) tail
    | succ d ih =>
      intro i hd
      refine ev_unfold (fun k => rfl) ?_
      simp only [laws_FnTricks.l0]
      refine ev_pos (by omega) (ev_unfold (fun k => rfl) ?_)
      simp only [laws_FnTricks.j3]
      refine ev_ite (fun hw => ?_) (fun _ => tail)
      have hw2 : 0 ≤ winnerOf tr t := of_decide_eq_true hw
      have hbest := winner_best hw2
      rw [w64next i (by omega), rd_at tr i (by omega)]
      refine ev_pos (by omega) (ev_pos (by omega) (ev_pos hw2 (ev_pos hbest.1 (Ev.bind (impl_Beats_ev _ _ _) (ev_neg (hbest.2 _ (List.getElem_mem _)) (ih (i + 1) (by omega)))))))
  have j0 : Ev (fun k => laws_FnTricks.j0 k b false) true := by
    refine ev_unfold (fun k => rfl) ?_
    simp only [laws_FnTricks.j0]
    refine ev_neg (by simp) (EvP.use (spec_DrawWinnerOf_ev b (by omega)) (fun r hr => Ev.bind (impl_WinnerOf_ev r.1 r.2 (by omega)) ?_))
    have hwi := winner_iff r.1 r.2
    have j1 : ∀ x : Bool, x = false → Ev (fun k => laws_FnTricks.j1 k b r.1 r.2 (winnerOf r.1 r.2) x) true := by
      rintro x rfl
      refine ev_unfold (fun k => rfl) ?_
      simp only [laws_FnTricks.j1]
      exact ev_neg (by simp) (l0 r.1 r.2 hr r.1.length 0 (by omega))
    refine ev_ite (fun hp => Ev.bind (impl_IsHand_ev r.1 (by omega)) (j1 _ ?_)) (fun hp => j1 _ ?_)
    · by_cases hh : isHand r.1 = true
      · rw [hh, decide_eq_true (hwi.2 ⟨by omega, hh⟩)]; rfl
      · have : isHand r.1 = false := by simpa using hh
        rw [this, decide_eq_false (fun z => hh (hwi.1 z).2)]; rfl
    · rw [decide_eq_false (fun z => by have := (hwi.1 z).1; omega)]; rfl
  refine EvP.use (spec_DrawChoices_ev b (by omega)) (fun c hc => ?_)
  obtain ⟨⟨c1, c2, c3⟩, c4⟩ := hc
  have hcl := choices_length c.1 c.2
  have hcn := choices_ne c.2 c1 c2
  have hcp : 0 < (choices c.1 c.2).length := List.length_pos_iff.2 hcn
  have hpp : 0 < c.1.length := List.length_pos_iff.2 c2
  refine Ev.bind (impl_Choices_ev c.1 c.2 (by omega) (by omega)) (Ev.bind (impl_IsHand_ev c.1 (by omega)) (ev_pos c1 (ev_pos (by omega) (ev_neg (by omega) (Ev.bind (laws_within_ev (choices c.1 c.2) c.1 (by omega) (by omega) (fun x hx => choices_mem hx)) j0)))))

end Go.Proofs.Ytgnimdlakocpjaa.Pure
