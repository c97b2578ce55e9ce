/- In the given program FnExactDealt answers true for every input, by what its functions compute; no condition. -/
import Derived.Test.YtgnimdlakocpjaaQFnExactDealtx4
import Derived.Test.YtgnimdlakocpjaaLib
import Derived.Test.YtgnimdlakocpjaaCards
import Derived.Test.YtgnimdlakocpjaaCards2
import Derived.Test.YtgnimdlakocpjaaCalls
import Derived.Test.YtgnimdlakocpjaaHands
import Derived.Test.YtgnimdlakocpjaaSheets
import Derived.Test.YtgnimdlakocpjaaDraw
import Derived.Test.YtgnimdlakocpjaaDeal
import Derived.Test.YtgnimdlakocpjaaMarks
namespace Go.Proofs.Ytgnimdlakocpjaa.Pure
open Go.RowKit Go.Proofs.Ytgnimdlakocpjaa.QFnExactDealt Go.Proofs.YtgnimdlakocpjaaW.PrintWords Go.Proofs.YtgnimdlakocpjaaW.PrintLast Go.Proofs.YtgnimdlakocpjaaW.PrintMore Go.Proofs.Ytgnimdlakocpjaa.Lib
set_option linter.unusedVariables false
set_option linter.unusedSimpArgs false

theorem rdss_at (l : List (List Int)) (i : Nat) (h : i < l.length) : rd_L1 l (i : Int) = l[i] := by
  unfold rd_L1
  rw [Int.toNat_natCast, List.getD_eq_getElem?_getD, List.getElem?_eq_getElem h]
  rfl

theorem laws_toIntS_ev (l : List Int) (hl : l.length ≤ 1048576000) : Ev (fun k => laws_toIntS.f k l) l := by
  simp only [laws_toIntS.f]
  refine ev_pos (by omega) (ev_pos (by omega) ?_)
  refine ev_loop (fun k (s : List Int) i => laws_toIntS.l0 k l s i) l (fun _ _ => l) (fun s i => s.length = l.length ∧ s.take i = l.take i) ?_ ?_ _ 0 (by omega) ⟨by simp, by simp⟩
  · rintro s ⟨h1, h2⟩
    refine ev_unfold (fun k => rfl) ?_
    simp only [laws_toIntS.l0]
    refine ev_neg (by omega) (ev_ret ?_)
    rw [List.take_of_length_le (by omega), List.take_of_length_le (by omega)] at h2
    exact h2
  · rintro s i hi ⟨h1, h2⟩ ih
    refine ev_unfold (fun k => rfl) ?_
    simp only [laws_toIntS.l0]
    refine ev_pos (by omega) (ev_pos (by omega) (ev_pos (by omega) ?_))
    rw [w64next i (by omega), rd_at l i hi, Int.toNat_natCast]
    refine ih _ ⟨by simpa using h1, ?_⟩
    apply List.ext_getElem
    · simp; omega
    · intro j hj1 hj2
      simp at hj1 hj2
      simp only [List.getElem_take, List.getElem_set]
      by_cases hij : i = j
      · subst hij; simp
      · rw [if_neg hij]
        have h3 : (s.take i)[j]'(by simp; omega) = (l.take i)[j]'(by simp; omega) := by simp only [h2]
        simpa using h3

theorem laws_eqIntS_ev (a b : List Int) (ha : a.length ≤ 1048576000) : Ev (fun k => laws_eqIntS.f k a b) (decide (a = b)) := by
  simp only [laws_eqIntS.f]
  refine ev_ite (fun hlen => ?_) (fun hne => ev_ret ?_)
  · have hlen' : a.length = b.length := by omega
    have h := ev_loop (fun k (_ : Unit) i => laws_eqIntS.l0 k a b i) a (fun _ r => decide (r = b.drop (a.length - r.length))) (fun _ _ => True) ?_ ?_ () 0 (by omega) trivial
    · refine ev_done h ?_
      simp
    · rintro _ _
      refine ev_unfold (fun k => rfl) ?_
      simp only [laws_eqIntS.l0]
      refine ev_neg (by omega) (ev_ret ?_)
      rw [List.length_nil, Nat.sub_zero, hlen', drop_end]
      simp
    · rintro _ i hi _ ih
      refine ev_unfold (fun k => rfl) ?_
      simp only [laws_eqIntS.l0]
      refine ev_pos (by omega) (ev_pos (by omega) (ev_pos (by omega) ?_))
      rw [w64next i (by omega), rd_at a i hi, rd_at b i (by omega)]
      have e1 : a.length - (a[i] :: a.drop (i + 1)).length = i := by simp; omega
      have e2 : a.length - (a.drop (i + 1)).length = i + 1 := by simp; omega
      refine ev_ite (fun heq => ?_) (fun hne => ev_ret ?_)
      · refine ev_done (ih () trivial) ?_
        rw [e1, e2, drop_at b i (by omega), heq]
        exact decide_eq_decide.2 ⟨fun h => by rw [h], fun h => (List.cons.inj h).2⟩
      · rw [e1, drop_at b i (by omega)]
        exact (decide_eq_false (fun h => hne (List.cons.inj h).1)).symm
  · have : a ≠ b := by rintro rfl; exact hne rfl
    simp [this]

theorem laws_markIntS_ev (l : List Int) (a : Int) (hl : l.length ≤ 1073741824) (ha : 0 ≤ a ∧ a ≤ 1073741824) : Ev (fun k => laws_markIntS.f k l a) (a + (l.length : Int), marks a l.length) := by
  simp only [laws_markIntS.f]
  refine ev_loop (fun k (s : List Int × Int) i => laws_markIntS.l0 k s.1 s.2 i) l (fun _ _ => (a + (l.length : Int), marks a l.length)) (fun s i => s.1.length = l.length ∧ s.2 = a + i ∧ s.1.take i = marks a i) ?_ ?_ (l, a) 0 (by omega) ⟨rfl, by simp, by simp [marks]⟩
  · rintro ⟨s, n⟩ ⟨h1, h2, h3⟩
    simp only at h1 h2 h3
    refine ev_unfold (fun k => rfl) ?_
    simp only [laws_markIntS.l0]
    refine ev_neg (by omega) (ev_ret ?_)
    rw [List.take_of_length_le (by omega)] at h3
    rw [h2, h3]
  · rintro ⟨s, n⟩ i hi ⟨h1, h2, h3⟩ ih
    simp only at h1 h2 h3
    refine ev_unfold (fun k => rfl) ?_
    simp only [laws_markIntS.l0]
    refine ev_pos (by omega) (ev_pos (by omega) ?_)
    rw [w64next i (by omega), Int.toNat_natCast, w64 (n + 1) (by omega)]
    refine ih (s.set i n, n + 1) ⟨by simpa using h1, by simp only; omega, ?_⟩
    simp only [h2]
    exact marks_step a s i (by omega) h3

theorem laws_heldIntS_ev (n : Nat) (a : Int) (hn : n ≤ 1073741824) (ha : 0 ≤ a ∧ a ≤ 1073741824) : Ev (fun k => laws_heldIntS.f k (marks a n) a) (a + (n : Int)) := by
  have hl := marks_length a n
  simp only [laws_heldIntS.f]
  refine ev_loop (fun k (s : Int) i => laws_heldIntS.l0 k (marks a n) s i) (marks a n) (fun _ _ => a + (n : Int)) (fun s i => s = a + i) ?_ ?_ a 0 (by omega) (by simp)
  · rintro s h
    refine ev_unfold (fun k => rfl) ?_
    simp only [laws_heldIntS.l0]
    refine ev_neg (by omega) (ev_ret ?_)
    rw [h, hl]
  · rintro s i hi h ih
    refine ev_unfold (fun k => rfl) ?_
    simp only [laws_heldIntS.l0]
    refine ev_pos (by omega) (ev_pos (by omega) ?_)
    rw [w64next i (by omega), rd_at _ i hi, marks_at, w64 (s + 1) (by omega)]
    refine ev_pos h.symm (ih _ (by omega))

theorem spec_l1In_eq (n a b : Int) : spec_l1In.f n a b = some (inR n a b) := by
  unfold spec_l1In.f inR
  by_cases h : a ≤ n
  · rw [if_pos (by omega)]; simp [h]
  · rw [if_neg (by omega)]; simp [h]

theorem spec_IsCard_eq (c : Int) : spec_IsCard.f c = some (isCard c) := by
  unfold spec_IsCard.f isCard
  rw [spec_l1In_eq]; rfl

theorem spec_HasCard_ev (l : List Int) (c : Int) (hl : l.length ≤ 1048576000) : Ev (fun k => spec_HasCard.f k l c) (hasCard l c) := by
  simp only [spec_HasCard.f]
  refine ev_done (ev_loop (fun k (_ : Unit) i => spec_HasCard.l0 k l c i) l (fun _ r => hasCard r c) (fun _ _ => True) ?_ ?_ () 0 (by omega) trivial) rfl
  · rintro s _
    refine ev_unfold (fun k => rfl) ?_
    simp only [spec_HasCard.l0]
    exact ev_neg (by omega) (ev_ret (by simp [hasCard]))
  · rintro s i hi _ ih
    refine ev_unfold (fun k => rfl) ?_
    simp only [spec_HasCard.l0]
    rw [w64next i (by omega), rd_at l i hi]
    refine ev_pos (by omega) (ev_pos (by omega) (ev_ite (fun h => ev_ret ?_) (fun h => ev_done (ih () trivial) ?_)))
    · simp [hasCard, h]
    · have h2 : ¬ c = l[i] := fun e => h e.symm
      simp only [hasCard, List.mem_cons]
      exact decide_eq_decide.2 ⟨fun h => .inr h, fun h => h.resolve_left h2⟩

theorem spec_IsHand_ev (l : List Int) (hl : l.length ≤ 1048576000) : Ev (fun k => spec_IsHand.f k l) (isHand l) := by
  simp only [spec_IsHand.f]
  refine ev_done (ev_loopN (fun k (_ : Unit) i => spec_IsHand.l0 k l i) l.length (fun _ i => handF (l.take i) (l.drop i)) (fun _ _ => True) ?_ ?_ () 0 (by omega) trivial) (by simp [isHand])
  · rintro s _
    refine ev_unfold (fun k => rfl) ?_
    simp only [spec_IsHand.l0]
    refine ev_neg (by omega) (ev_ret ?_)
    rw [drop_end]; rfl
  · rintro s i hi _ ih
    have ht : (l.take i).length ≤ 1048576000 := by simp; omega
    refine ev_unfold (fun k => rfl) ?_
    simp only [spec_IsHand.l0]
    rw [w64next i (by omega), rd_at l i hi, drop_at l i hi, Int.toNat_natCast]
    unfold handF
    refine ev_pos (by omega) (ev_pos (by omega) (ev_eq (spec_IsCard_eq _) (ev_ite (fun h => ?_) (fun h => ev_ret ?_))))
    · refine ev_pos (by omega) (Ev.bind (spec_HasCard_ev _ _ ht) (ev_ite (fun h2 => ev_ret ?_) (fun h2 => ev_done (ih () trivial) ?_)))
      · rw [h2]; simp
      · rw [Bool.not_eq_true] at h2
        rw [h, h2, take_at l i hi]; simp
    · rw [Bool.not_eq_true] at h
      rw [h]; simp

theorem deal_at (j n q : Nat) (h : j * n + q ≤ 1048576) : wrap64 (wrap64 ((j : Int) * (n : Int)) + (q : Int)) = ((j * n + q : Nat) : Int) := by
  have : (j : Int) * (n : Int) = ((j * n : Nat) : Int) := by rw [Int.natCast_mul]
  rw [this]
  generalize j * n = x at h ⊢
  rw [w64 (x : Int) (by omega), w64 _ (by omega)]
  omega
theorem spec_Dealt_end (deck : List Int) (n m x : Nat) (rows : List (List Int)) {r : List (List Int) × List Int × Bool} (hw : wrap64 ((n : Int) * (m : Int)) = (x : Int)) (hl : deck.length ≤ 1048576) (hle : (x : Int) ≤ (deck.length : Int)) (hr : (rows, deck.drop x, true) = r) : Ev (fun k => spec_Dealt.l0 k deck (n : Int) (m : Int) rows (n : Int)) r := by
  have hd : (deck.drop x).length ≤ deck.length := by rw [List.length_drop]; exact Nat.sub_le _ _
  generalize hq : deck.drop x = q at hd hr
  have hx : deck.drop ((x : Int)).toNat = q := by rw [Int.toNat_natCast]; exact hq
  have h0 : ¬ (n : Int) < (n : Int) := Int.lt_irrefl _
  have h1 : (0 : Int) ≤ (x : Int) := Int.natCast_nonneg x
  have h2 : ([] : List Int).length + q.length < 17592186044416 := by
    have : ([] : List Int).length = 0 := rfl
    omega
  refine ⟨1, fun k hk => ?_⟩
  obtain ⟨j, rfl⟩ : ∃ j, k = j + 1 := ⟨k - 1, by omega⟩
  show spec_Dealt.l0 (j + 1) deck (n : Int) (m : Int) rows (n : Int) = some r
  rw [spec_Dealt.l0]
  rw [if_neg h0, Option.bind_some, hw, hx, if_pos h1, if_pos hle, if_pos h2, List.nil_append, hr]
theorem spec_Dealt_ev (deck : List Int) (p e : Int) (hl : deck.length ≤ 1048576) : Ev (fun k => spec_Dealt.f k deck p e) (dealt deck p e) := by
  have l0 : canDeal deck p e = true → Ev (fun k => spec_Dealt.l0 k deck p e [] 0) (dealt deck p e) := by
    intro hc
    obtain ⟨h1, hp, he, hle⟩ := canDeal_iff hc
    have hb := mul_bound hp he
    obtain ⟨n, rfl⟩ : ∃ n : Nat, p = (n : Int) := ⟨p.toNat, by omega⟩
    obtain ⟨m, rfl⟩ : ∃ m : Nat, e = (m : Int) := ⟨e.toNat, by omega⟩
    have hnm : (n : Int) * (m : Int) = ((m * n : Nat) : Int) := by rw [Int.natCast_mul, Int.mul_comm]
    rw [hnm] at hb hle
    have hw : wrap64 ((n : Int) * (m : Int)) = ((m * n : Nat) : Int) := by rw [hnm, w64 _ (by omega)]
    have rows : ∀ q : Nat, q ≤ n → Ev (fun k => spec_Dealt.l0 k deck (n : Int) (m : Int) ((List.range q).map (dealRow deck n m 0)) (q : Int)) (dealt deck (n : Int) (m : Int)) := by
      have key : ∀ (d q : Nat), q + d = n → Ev (fun k => spec_Dealt.l0 k deck (n : Int) (m : Int) ((List.range q).map (dealRow deck n m 0)) (q : Int)) (dealt deck (n : Int) (m : Int)) := by
        intro d
        induction d with
        | zero =>
          intro q hq
          obtain rfl : q = n := by omega
          refine spec_Dealt_end deck q m (m * q) _ hw (by omega) hle ?_
          unfold dealt
          rw [if_pos hc, hnm]
          rfl
        | succ d ih =>
          intro q hq
          clear hw hnm
          refine ev_unfold (fun k => rfl) ?_
          simp only [spec_Dealt.l0]
          refine ev_pos (by omega) ?_
          have inner : ∀ (c j : Nat), j + c = m → Ev (fun k => spec_Dealt.l1 k deck (n : Int) (m : Int) ((List.range q).map (dealRow deck n m 0)) (q : Int) ((List.range j).map (fun (i : Nat) => rd deck ((i * n + q : Nat) : Int))) (j : Int)) (dealt deck (n : Int) (m : Int)) := by
            intro c
            induction c with
            | zero =>
              intro j hj
              obtain rfl : j = m := by omega
              refine ev_unfold (fun k => rfl) ?_
              simp only [spec_Dealt.l1]
              rw [w64next q (by omega)]
              have e1 : (List.range q).map (dealRow deck n j 0) ++ [(List.range j).map (fun (i : Nat) => rd deck ((i * n + q : Nat) : Int))] = (List.range (q + 1)).map (dealRow deck n j 0) := by
                rw [List.range_succ, List.map_append]
                congr 1
              rw [e1]
              exact ev_neg (by omega) (ev_pos (by rw [List.length_map, List.length_range]; omega) (ih (q + 1) (by omega)))
            | succ c ihc =>
              intro j hj
              refine ev_unfold (fun k => rfl) ?_
              simp only [spec_Dealt.l1]
              have hjm : j * n + n ≤ m * n := by rw [← Nat.succ_mul]; exact Nat.mul_le_mul_right n (by omega)
              rw [deal_at j n q (by omega), w64next j (by omega)]
              refine ev_pos (by omega) (ev_pos (by omega) (ev_pos (by omega) (ev_pos (by rw [List.length_map, List.length_range]; omega) ?_)))
              have e2 : (List.range j).map (fun (i : Nat) => rd deck ((i * n + q : Nat) : Int)) ++ [rd deck ((j * n + q : Nat) : Int)] = (List.range (j + 1)).map (fun (i : Nat) => rd deck ((i * n + q : Nat) : Int)) := by
                rw [List.range_succ, List.map_append]; rfl
              rw [e2]
              exact ihc (j + 1) (by omega)
          exact inner m 0 (by omega)
      intro q hq
      exact key (n - q) q (by omega)
    exact rows 0 (by omega)
  have j0 : ∀ b : Bool, (b = false → canDeal deck p e = true) → (b = true → canDeal deck p e = false) → Ev (fun k => spec_Dealt.j0 k deck p e b) (dealt deck p e) := by
    intro b h1 h2
    refine ev_unfold (fun k => rfl) ?_
    simp only [spec_Dealt.j0, Option.bind_some, List.length_nil, List.nil_append]
    refine ev_ite (fun h => ev_pos (by omega) (ev_ret ?_)) (fun h => l0 (h1 (by simpa using h)))
    unfold dealt; rw [h2 h]; rfl
  have no : ∀ {x : Prop}, (canDeal deck p e = true → x) → ¬ x → canDeal deck p e = false := fun h k => by
    rw [← Bool.not_eq_true]; exact fun z => k (h z)
  simp only [spec_Dealt.f, spec_l1In_eq, Option.bind_some]
  refine Ev.bind (spec_IsHand_ev deck (by omega)) (ev_ite (fun h1 => ev_ite (fun h2 => ev_ite (fun h3 => ?_) (fun h3 => ?_)) (fun h2 => ?_)) (fun h1 => ?_))
  · have hp := (inR_iff _ _ _).1 h2
    have he := (inR_iff _ _ _).1 h3
    have hb := mul_bound hp he
    rw [w64 (p * e) (by omega)]
    refine j0 _ (fun h => ?_) (fun h => no (fun z => (canDeal_iff z).2.2.2) (by have := of_decide_eq_true h; omega))
    have := of_decide_eq_false h
    simp only [canDeal, h1, h2, h3, Bool.true_and, decide_eq_true_eq]
    omega
  · exact j0 _ (fun h => by cases h) (fun _ => no (fun z => (inR_iff _ _ _).2 (canDeal_iff z).2.2.1) h3)
  · exact j0 _ (fun h => by cases h) (fun _ => no (fun z => (inR_iff _ _ _).2 (canDeal_iff z).2.1) h2)
  · exact j0 _ (fun h => by cases h) (fun _ => no (fun z => (canDeal_iff z).1) h1)

theorem impl_InRange_eq (n a b : Int) : impl_InRange.f n a b = some (inR n a b) := by
  unfold impl_InRange.f inR
  by_cases h : a ≤ n
  · rw [if_pos (by omega)]; simp [h]
  · rw [if_neg (by omega)]; simp [h]

theorem impl_IsCard_eq (c : Int) : impl_IsCard.f c = some (isCard c) := by
  unfold impl_IsCard.f isCard
  rw [impl_InRange_eq]; rfl

theorem impl_IsHand_ev (l : List Int) (hl : l.length ≤ 1048576000) : Ev (fun k => impl_IsHand.f k l) (isHand l) := by
  simp only [impl_IsHand.f]
  refine ev_done (ev_loopN (fun k (s : List Bool) i => impl_IsHand.l0 k l s i) l.length (fun _ i => handF (l.take i) (l.drop i)) (fun s i => s.length = 52 ∧ ∀ c : Nat, c < 52 → s.getD c false = decide ((c : Int) ∈ l.take i)) ?_ ?_ _ 0 (by omega) ⟨by simp, fun c hc => by rw [List.getD_eq_getElem?_getD, List.getElem?_replicate, if_pos hc]; simp⟩) (by simp [isHand])
  · rintro s _
    refine ev_unfold (fun k => rfl) ?_
    simp only [impl_IsHand.l0]
    refine ev_neg (by omega) (ev_ret ?_)
    rw [drop_end]; rfl
  · rintro s i hi ⟨h52, hs⟩ ih
    refine ev_unfold (fun k => rfl) ?_
    simp only [impl_IsHand.l0]
    rw [w64next i (by omega), rd_at l i hi, drop_at l i hi]
    unfold handF
    refine ev_pos (by omega) (ev_pos (by omega) (ev_eq (impl_IsCard_eq _) (ev_ite (fun h => ?_) (fun h => ev_ret ?_))))
    · have hc := (isCard_iff _).1 h
      have he := hs l[i].toNat (by omega)
      rw [show ((l[i].toNat : Nat) : Int) = l[i] by omega] at he
      refine ev_pos (by omega) (ev_pos (by omega) (ev_ite (fun h2 => ev_ret ?_) (fun h2 => ev_done (ih _ ⟨by simpa using h52, fun c hc2 => ?_⟩) ?_)))
      · rw [h2] at he
        unfold hasCard
        rw [← he]; simp
      · rw [take_at l i hi, List.getD_eq_getElem?_getD, List.getElem?_set]
        have h3 := hs c hc2
        rw [List.getD_eq_getElem?_getD] at h3
        by_cases hci : l[i].toNat = c
        · rw [if_pos hci, if_pos (by omega)]
          have : (c : Int) = l[i] := by omega
          exact (decide_eq_true (List.mem_append.2 (.inr (by rw [this]; exact List.mem_singleton.2 rfl)))).symm
        · rw [if_neg hci, h3]
          have : ¬ (c : Int) = l[i] := by omega
          exact decide_eq_decide.2 ⟨fun h => List.mem_append.2 (.inl h), fun h => (List.mem_append.1 h).resolve_right (fun h => this (List.mem_singleton.1 h))⟩
      · rw [Bool.not_eq_true] at h2
        rw [h2] at he
        unfold hasCard
        rw [h, ← he, take_at l i hi]; simp
    · rw [Bool.not_eq_true] at h
      rw [h]; simp

theorem impl_copyOf_eq (l : List Int) (hl : l.length ≤ 1048576000) : impl_copyOf.f l = some l := by
  unfold impl_copyOf.f
  simp only [Option.bind_some, List.length_nil, List.nil_append]
  rw [if_pos (by omega)]

theorem impl_Dealt_ev (deck : List Int) (p e : Int) (hl : deck.length ≤ 1048576) : Ev (fun k => impl_Dealt.f k deck p e) (dealt deck p e) := by
  have l0 : canDeal deck p e = true → Ev (fun k => impl_Dealt.l0 k deck p e (List.replicate p.toNat []) (deck.take (p * e).toNat) ((deck.take (p * e).toNat).length : Int) 0) (dealt deck p e) := by
    intro hc
    obtain ⟨h1, hp, he, hle⟩ := canDeal_iff hc
    have hb := mul_bound hp he
    obtain ⟨n, rfl⟩ : ∃ n : Nat, p = (n : Int) := ⟨p.toNat, by omega⟩
    obtain ⟨m, rfl⟩ : ∃ m : Nat, e = (m : Int) := ⟨e.toNat, by omega⟩
    have hnm : (n : Int) * (m : Int) = ((m * n : Nat) : Int) := by rw [Int.natCast_mul, Int.mul_comm]
    rw [hnm] at hb hle
    have hw : wrap64 ((n : Int) * (m : Int)) = ((m * n : Nat) : Int) := by rw [hnm, w64 _ (by omega)]
    simp only [hnm, Int.toNat_natCast]
    have ht : (deck.take (m * n)).length = m * n := by rw [List.length_take]; omega
    have hend : Ev (fun k => impl_Dealt.l0 k deck (n : Int) (m : Int) (dealRows deck n m 0) (deck.take (m * n)) ((deck.take (m * n)).length : Int) ((m * n : Nat) : Int)) (dealt deck (n : Int) (m : Int)) := by
      refine ev_unfold (fun k => rfl) ?_
      simp only [impl_Dealt.l0]
      rw [hw, ht, Int.toNat_natCast]
      refine ev_neg (by omega) (ev_pos (by omega) (ev_pos (by omega) (ev_eq (impl_copyOf_eq _ (by rw [List.length_drop]; omega)) (ev_ret ?_))))
      unfold dealt
      rw [if_pos hc, hnm, Int.toNat_natCast, Int.toNat_natCast, Int.toNat_natCast]
    -- a whole round, told from its end
    have round : ∀ a : Nat, a < m → Ev (fun k => impl_Dealt.l0 k deck (n : Int) (m : Int) (dealRows deck n (a + 1) 0) (deck.take (m * n)) ((deck.take (m * n)).length : Int) (((a + 1) * n : Nat) : Int)) (dealt deck (n : Int) (m : Int)) →
        ∀ (d b : Nat), b + d = n → Ev (fun k => impl_Dealt.l0 k deck (n : Int) (m : Int) (dealRows deck n a b) (deck.take (m * n)) ((deck.take (m * n)).length : Int) ((a * n + b : Nat) : Int)) (dealt deck (n : Int) (m : Int)) := by
      intro a ha hnext d
      have hmul : (a + 1) * n ≤ m * n := Nat.mul_le_mul_right n ha
      rw [Nat.succ_mul] at hmul hnext
      induction d with
      | zero =>
        intro b hbd
        obtain rfl : b = n := by omega
        rw [dealRows_round]
        exact hnext
      | succ d ih =>
        intro b hbd
        refine ev_unfold (fun k => rfl) ?_
        simp only [impl_Dealt.l0]
        have hmod : Int.tmod ((a * n + b : Nat) : Int) (n : Int) = (b : Int) := by
          rw [← Int.ofNat_tmod]
          congr 1
          rw [Nat.mul_comm a n, Nat.mul_add_mod]
          exact Nat.mod_eq_of_lt (by omega)
        have hrow : rd_L1 (dealRows deck n a b) (b : Int) = dealRow deck n a b b := by
          rw [rdss_at _ b (by rw [dealRows_length]; omega), dealRows_at]
        have hlen : (dealRow deck n a b b).length ≤ 21 := by rw [dealRow_len, if_neg (Nat.lt_irrefl b)]; omega
        have hrd : rd (deck.take (m * n)) ((a * n + b : Nat) : Int) = rd deck ((a * n + b : Nat) : Int) := by
          rw [rd_at _ (a * n + b) (by rw [ht]; omega), rd_at deck (a * n + b) (by omega), List.getElem_take]
        rw [w64next (a * n + b) (by omega), hmod, hrow, hrd, Int.toNat_natCast, dealRows_set deck n a b (by omega), ht, dealRows_length]
        refine ev_pos (by omega) (ev_pos (by omega) (ev_pos (by omega) (ev_neg (by omega) (ev_pos (by omega) (ev_pos (by omega) (ev_pos (by omega) ?_))))))
        have := ih (b + 1) (by omega)
        rw [ht] at this
        exact this
    have all : ∀ (d a : Nat), a + d = m → Ev (fun k => impl_Dealt.l0 k deck (n : Int) (m : Int) (dealRows deck n a 0) (deck.take (m * n)) ((deck.take (m * n)).length : Int) ((a * n : Nat) : Int)) (dealt deck (n : Int) (m : Int)) := by
      intro d
      induction d with
      | zero =>
        intro a ha
        obtain rfl : a = m := by omega
        exact hend
      | succ d ih =>
        intro a ha
        exact round a (by omega) (ih (a + 1) (by omega)) n 0 (by omega)
    have := all m 0 (by omega)
    rw [Nat.zero_mul, dealRows_zero] at this
    exact this
  have j0 : ∀ b : Bool, (b = false → canDeal deck p e = true) → (b = true → canDeal deck p e = false) → Ev (fun k => impl_Dealt.j0 k deck p e b) (dealt deck p e) := by
    intro b h1 h2
    refine ev_unfold (fun k => rfl) ?_
    simp only [impl_Dealt.j0]
    refine ev_ite (fun h => ev_eq (impl_copyOf_eq deck (by omega)) (ev_ret ?_)) (fun h => ?_)
    · unfold dealt; rw [h2 h]; rfl
    · have hc := h1 (by simpa using h)
      obtain ⟨g1, hp, he, hle⟩ := canDeal_iff hc
      have hb := mul_bound hp he
      have hw : wrap64 (p * e) = p * e := w64 _ (by omega)
      have := l0 hc
      rw [hw]
      exact ev_pos (by omega) (ev_pos (by omega) (ev_pos (by omega) (ev_pos hle this)))
  have no : ∀ {x : Prop}, (canDeal deck p e = true → x) → ¬ x → canDeal deck p e = false := fun h k => by
    rw [← Bool.not_eq_true]; exact fun z => k (h z)
  simp only [impl_Dealt.f, impl_InRange_eq, Option.bind_some]
  refine Ev.bind (impl_IsHand_ev deck (by omega)) (ev_ite (fun h1 => ev_ite (fun h2 => ev_ite (fun h3 => ?_) (fun h3 => ?_)) (fun h2 => ?_)) (fun h1 => ?_))
  · have hp := (inR_iff _ _ _).1 h2
    have he := (inR_iff _ _ _).1 h3
    have hb := mul_bound hp he
    rw [w64 (p * e) (by omega)]
    refine j0 _ (fun h => ?_) (fun h => no (fun z => (canDeal_iff z).2.2.2) (by have := of_decide_eq_true h; omega))
    have := of_decide_eq_false h
    simp only [canDeal, h1, h2, h3, Bool.true_and, decide_eq_true_eq]
    omega
  · exact j0 _ (fun h => by cases h) (fun _ => no (fun z => (inR_iff _ _ _).2 (canDeal_iff z).2.2.1) h3)
  · exact j0 _ (fun h => by cases h) (fun _ => no (fun z => (inR_iff _ _ _).2 (canDeal_iff z).2.1) h2)
  · exact j0 _ (fun h => by cases h) (fun _ => no (fun z => (canDeal_iff z).1) h1)

theorem laws_eqIntSS_ev (a b : List (List Int)) (ha : a.length ≤ 1048576000) (hr : ∀ r ∈ a, r.length ≤ 1048576000) : Ev (fun k => laws_eqIntSS.f k a b) (decide (a = b)) := by
  simp only [laws_eqIntSS.f]
  refine ev_ite (fun hlen => ?_) (fun hne => ev_ret ?_)
  · have hlen' : a.length = b.length := by omega
    refine ev_done (ev_loopN (fun k (_ : Unit) i => laws_eqIntSS.l0 k a b i) a.length (fun _ i => decide (a.drop i = b.drop i)) (fun _ _ => True) ?_ ?_ () 0 (by omega) trivial) (by simp)
    · rintro _ _
      refine ev_unfold (fun k => rfl) ?_
      simp only [laws_eqIntSS.l0]
      refine ev_neg (by omega) (ev_ret ?_)
      rw [drop_end, hlen', drop_end]; simp
    · rintro _ i hi _ ih
      refine ev_unfold (fun k => rfl) ?_
      simp only [laws_eqIntSS.l0]
      rw [w64next i (by omega), rdss_at a i hi, rdss_at b i (by omega), drop_at a i hi, drop_at b i (by omega)]
      refine ev_pos (by omega) (ev_pos (by omega) (ev_pos (by omega) (Ev.bind (laws_eqIntS_ev _ _ (hr _ (List.getElem_mem hi))) ?_)))
      refine ev_ite (fun heq => ?_) (fun hne => ev_ret ?_)
      · refine ev_done (ih () trivial) ?_
        have heq' := of_decide_eq_true heq
        exact decide_eq_decide.2 ⟨fun h => by rw [h, heq'], fun h => (List.cons.inj h).2⟩
      · exact (decide_eq_false (fun h => hne (decide_eq_true (List.cons.inj h).1))).symm
  · have : a ≠ b := by rintro rfl; exact hne rfl
    simp [this]

theorem laws_markIntSS_ev (l : List (List Int)) (a : Int) (hl : l.length ≤ 1048576000) (ht : totalLen l ≤ 268435456) (ha : 0 ≤ a ∧ a ≤ 268435456) : Ev (fun k => laws_markIntSS.f k l a) (a + (totalLen l : Int), markRows a l) := by
  simp only [laws_markIntSS.f]
  refine ev_loop (fun k (s : List (List Int) × Int) i => laws_markIntSS.l0 k s.1 s.2 i) l (fun _ _ => (a + (totalLen l : Int), markRows a l)) (fun s i => s.1 = markRows a (l.take i) ++ l.drop i ∧ s.2 = a + (totalLen (l.take i) : Int)) ?_ ?_ (l, a) 0 (by omega) ⟨by simp [markRows], by simp [totalLen]⟩
  · rintro ⟨s, n⟩ ⟨h1, h2⟩
    simp only at h1 h2
    rw [List.take_length, List.drop_length, List.append_nil] at h1
    rw [List.take_length] at h2
    refine ev_unfold (fun k => rfl) ?_
    simp only [laws_markIntSS.l0]
    refine ev_neg (by rw [h1, markRows_length]; omega) (ev_ret ?_)
    rw [h1, h2]
  · rintro ⟨s, n⟩ i hi ⟨h1, h2⟩ ih
    simp only at h1 h2
    have hm : (markRows a (l.take i)).length = i := by rw [markRows_length, List.length_take]; omega
    have hs : s.length = l.length := by rw [h1, List.length_append, hm, List.length_drop]; omega
    rw [drop_at l i hi] at h1
    have hg : s.getD (i : Int).toNat [] = l[i] := by
      rw [Int.toNat_natCast, h1, List.getD_eq_getElem?_getD, List.getElem?_append_right (by omega), hm, Nat.sub_self]
      rfl
    have hsp := totalLen_split l (i + 1)
    have htk : totalLen (l.take (i + 1)) = totalLen (l.take i) + l[i].length := by rw [take_at l i hi, totalLen_snoc]
    refine ev_unfold (fun k => rfl) ?_
    simp only [laws_markIntSS.l0]
    rw [hg, w64next i (by omega), Int.toNat_natCast]
    refine ev_pos (by omega) (ev_pos (by omega) (Ev.bind (laws_markIntS_ev l[i] n (by omega) (by omega)) (ih (s.set i (marks n l[i].length), n + (l[i].length : Int)) ⟨?_, ?_⟩)))
    · simp only
      rw [h1, List.set_append_right _ _ (by omega), hm, Nat.sub_self, List.set_cons_zero, take_at l i hi, markRows_snoc, List.append_assoc, h2]
      rfl
    · simp only
      rw [htk, h2]
      omega

theorem laws_heldIntSS_ev (l : List (List Int)) (a : Int) (hl : l.length ≤ 1048576000) (ht : totalLen l ≤ 268435456) (ha : 0 ≤ a ∧ a ≤ 268435456) : Ev (fun k => laws_heldIntSS.f k (markRows a l) a) (a + (totalLen l : Int)) := by
  simp only [laws_heldIntSS.f]
  have hm := markRows_length l a
  refine ev_loopN (fun k (s : Int) i => laws_heldIntSS.l0 k (markRows a l) s i) l.length (fun _ _ => a + (totalLen l : Int)) (fun s i => s = a + (totalLen (l.take i) : Int)) ?_ ?_ a 0 (by omega) (by simp [totalLen])
  · rintro s h
    rw [List.take_length] at h
    refine ev_unfold (fun k => rfl) ?_
    simp only [laws_heldIntSS.l0]
    exact ev_neg (by omega) (ev_ret h)
  · rintro s i hi h ih
    have hrow : rd_L1 (markRows a l) (i : Int) = marks s l[i].length := by
      rw [rdss_at _ i (by omega)]
      have e : markRows a l = markRows a (l.take i ++ [l[i]] ++ l.drop (i + 1)) := by rw [← take_at l i hi, List.take_append_drop]
      have key : ∀ (x y : List (List Int)) (a : Int), markRows a (x ++ y) = markRows a x ++ markRows (a + (totalLen x : Int)) y := by
        intro x
        induction x with
        | nil => intro y a; simp [markRows, totalLen]
        | cons r t ih => intro y a; show markRows a (r :: (t ++ y)) = _; simp only [markRows]; rw [ih, totalLen_cons, List.cons_append, show a + (r.length : Int) + (totalLen t : Int) = a + ((r.length + totalLen t : Nat) : Int) by omega]
      have e2 : markRows a l = markRows a (l.take i) ++ (marks s l[i].length :: markRows (a + (totalLen (l.take i ++ [l[i]]) : Int)) (l.drop (i + 1))) := by
        rw [e, key, markRows_snoc, List.append_assoc, h]
        rfl
      have hmi : (markRows a (l.take i)).length = i := by rw [markRows_length, List.length_take]; omega
      have : (markRows a l)[i]? = some (marks s l[i].length) := by
        rw [e2, List.getElem?_append_right (by omega), hmi, Nat.sub_self]
        rfl
      rw [List.getElem?_eq_getElem (by omega)] at this
      exact Option.some.inj this
    have hsp := totalLen_split l (i + 1)
    have htk : totalLen (l.take (i + 1)) = totalLen (l.take i) + l[i].length := by rw [take_at l i hi, totalLen_snoc]
    refine ev_unfold (fun k => rfl) ?_
    simp only [laws_heldIntSS.l0]
    rw [hrow, w64next i (by omega)]
    refine ev_pos (by omega) (ev_pos (by omega) (Ev.bind (laws_heldIntS_ev l[i].length s (by omega) (by omega)) (ev_neg (by omega) (ih _ ?_))))
    rw [htk, h]
    omega

theorem hand_len {l : List Int} (h : isHand l = true) : l.length ≤ 52 := by
  have hl := (isHand_iff l).1 h
  have := pigeon l ((List.range 52).map fun (j : Nat) => (j : Int)) hl.2 (fun x hx => by
    have h2 := (isCard_iff x).1 (hl.1 x hx)
    exact List.mem_map.2 ⟨x.toNat, List.mem_range.2 (by omega), by omega⟩)
  simpa using this
set_option maxHeartbeats 8000000 in
set_option maxRecDepth 100000 in
theorem FnExactDealt (A1 : Option Addr) (c1 : Nat) (l1 : List Int) (p e : Int) (w : World) (hr1 : Kd.C (Kd.int .i64) w A1 l1.length l1) (hc1 : l1.length ≤ c1)
    (hl1 : l1.length ≤ maxLen) (_ : ∀ x ∈ l1, (Lit.int .i64 x).wf = true) (_ : (Lit.int .i64 p).wf = true) (_ : (Lit.int .i64 e).wf = true) :
    Calls Try.prog 7 #[.slice A1 l1.length c1, .int .i64 p, .int .i64 e] w fun e_ w' => e_ = .returned (.bool true) ∧ Below w.heap.size w w' := by
  have HR1 := Aside0.mk hr1
  have HC1 := Aside0.mk hc1
  clear hr1 hc1
  have HB := Aside0.mk (Below.refl w.heap.size w)
  by_cases g1 : (l1.length : Int) > 1048576
  · have g1a : decide (1048576 < (l1.length : Int)) = true := decide_eq_true g1
    have g1b : decide (1048576 < l1.length) = true := decide_eq_true (by omega)
    clear g1
    go_enter Try.func7, Try.ntmps7
    go_wp2
    go_ret
    exact ⟨rfl, HB.out⟩
  have g1a : decide (1048576 < (l1.length : Int)) = false := decide_eq_false (by omega)
  have g1b : decide (1048576 < l1.length) = false := decide_eq_false (by omega)
  obtain ⟨k1, e1⟩ := (laws_toIntS_ev l1 (by omega)).rounds
  obtain ⟨Y, hY⟩ : ∃ Y, Y = dealt l1 p e := ⟨_, rfl⟩
  obtain ⟨k2, e2⟩ := (spec_Dealt_ev l1 p e (by omega)).rounds
  obtain ⟨k3, e3⟩ := (impl_Dealt_ev l1 p e (by omega)).rounds
  rw [← hY] at e2 e3
  have hYt : totalLen Y.1 ≤ 2097152 ∧ Y.1.length ≤ 1048577 ∧ (∀ r ∈ Y.1, r.length ≤ 1048576) ∧ Y.2.1.length ≤ 1048576 := by
    rw [hY]
    unfold dealt
    split
    · rename_i hc
      obtain ⟨q1, q2, q3, q4⟩ := canDeal_iff hc
      have hrows : ∀ r ∈ dealRows l1 p.toNat e.toNat 0, r.length ≤ 20 := by
        intro r hr
        unfold dealRows at hr
        obtain ⟨q, _, rfl⟩ := List.mem_map.1 hr
        rw [dealRow_len, if_neg (Nat.not_lt_zero q)]; omega
      have hlen := dealRows_length l1 p.toNat e.toNat 0
      have ht := totalLen_le _ 20 hrows
      refine ⟨by simp only; omega, by simp only; omega, fun r hr => by have := hrows r hr; omega, by simp only [List.length_drop]; omega⟩
    · exact ⟨by simp [totalLen], by simp, by simp, by simp only; omega⟩
  clear hY
  obtain ⟨Y, Z, b⟩ := Y
  simp only at hYt
  obtain ⟨y1, y2, y3, y4⟩ := hYt
  obtain ⟨k4, e4⟩ := (laws_eqIntSS_ev Y Y (by omega) (fun r hr => by have := y3 r hr; omega)).rounds
  obtain ⟨k5, e5⟩ := (laws_eqIntS_ev Z Z (by omega)).rounds
  obtain ⟨k6, e6⟩ := (laws_eqIntS_ev l1 l1 (by omega)).rounds
  rw [decide_eq_true rfl] at e4 e5 e6
  obtain ⟨k7, e7⟩ := (laws_markIntS_ev l1 1 (by omega) (by omega)).rounds
  obtain ⟨k8, e8⟩ := (laws_markIntSS_ev Y 1 (by omega) (by omega) (by omega)).rounds
  obtain ⟨k9, e9⟩ := (laws_markIntS_ev Z (1 + (totalLen Y : Int)) (by omega) (by omega)).rounds
  obtain ⟨k10, e10⟩ := (laws_heldIntSS_ev Y 1 (by omega) (by omega) (by omega)).rounds
  obtain ⟨k11, e11⟩ := (laws_heldIntS_ev Z.length (1 + (totalLen Y : Int)) (by omega) (by omega)).rounds
  obtain ⟨t1, ht1⟩ : ∃ t1, t1 = 1 + (l1.length : Int) := ⟨_, rfl⟩
  rw [← ht1] at e7
  obtain ⟨m1, hm1⟩ : ∃ m1, m1 = 1 + (totalLen Y : Int) := ⟨_, rfl⟩
  rw [← hm1] at e8 e9 e10 e11
  obtain ⟨m2, hm2⟩ : ∃ m2, m2 = m1 + (Z.length : Int) := ⟨_, rfl⟩
  rw [← hm2] at e9 e11
  obtain ⟨M, hM⟩ : ∃ M, M = markRows 1 Y := ⟨_, rfl⟩
  rw [← hM] at e8 e10
  obtain ⟨N, hN⟩ : ∃ N, N = marks m1 Z.length := ⟨_, rfl⟩
  rw [← hN] at e9 e11
  obtain ⟨X1, hX1⟩ : ∃ X, X = marks 1 l1.length := ⟨_, rfl⟩
  rw [← hX1] at e7
  have g3 : decide (t1 < 0) = false := decide_eq_false (by omega)
  have g4 : decide (m1 < 0) = false := decide_eq_false (by omega)
  have g5 : decide (m2 < 0) = false := decide_eq_false (by omega)
  have E1 := Aside0.mk e1
  have E2 := Aside0.mk e2
  have E3 := Aside0.mk e3
  have E4 := Aside0.mk e4
  have E5 := Aside0.mk e5
  have E6 := Aside0.mk e6
  have E7 := Aside0.mk e7
  have E8 := Aside0.mk e8
  have E9 := Aside0.mk e9
  have E10 := Aside0.mk e10
  have E11 := Aside0.mk e11
  clear e1 e2 e3 e4 e5 e6 e7 e8 e9 e10 e11 ht1 hm1 hm2 hM hN hX1 y1 y2 y3 y4 g1 hl1
  go_enter Try.func7, Try.ntmps7
  go_wp2_with (first | (go_at_call 24; (with_reducible refine (laws_toIntS.calls k1 _ _ l1 l1 _ (Kd.C_below HR1.out HB.out) HC1.out E1.out).mono ?_); rintro e w1_ ⟨v1_0, rfl, ho0, hb⟩; obtain ⟨A1_0, c1_0, rfl⟩ := Kd.R_slice ho0; have s1_ := Aside0.mk hb.size; have n0_ := Aside0.mk (show Kd.R (Kd.int .i64) 3 w1_ w.heap.size (fun k_ => (w.heap.size ≤ k_ ∧ k_ < w1_.heap.size ∧ some k_ = ((.slice A1_0 l1.length c1_0) : Value).ownBlock)) (.slice A1_0 l1.length c1_0) l1 from Kd.R_lower (Kd.R_mono (Kd.R_bound (Kd.R_tight rfl ho0)) (fun k_ hk => (⟨hk.2.1, hk.2.2.1, hk.1⟩ : _ ∧ _ ∧ _))) (below_size HB.out)); have nb_ := Aside0.mk (below_step HB.out hb); (try clear Fa); (try clear HB); (try clear hb); (try clear ho0); have Fa := n0_; have HB := nb_; clear nb_ n0_))
  go_wp2_with (first | (go_at_call 44; (with_reducible refine (spec_Dealt.calls k2 _ _ l1 p e Y Z b _ (Kd.R_reads' Fa.out).2.2 (Kd.R_reads' Fa.out).2.1 E2.out).mono ?_); rintro e w2_ ⟨v2_0, v2_1, rfl, ho0, ho1, hb⟩; obtain ⟨A2_0, c2_0, rfl⟩ := Kd.S_slice ho0; obtain ⟨A2_1, c2_1, rfl⟩ := Kd.R_slice ho1; have s2_ := Aside0.mk hb.size; have n0_ := Aside0.mk (show Kd.R (Kd.int .i64) 3 w2_ w.heap.size (fun k_ => (w.heap.size ≤ k_ ∧ k_ < w1_.heap.size ∧ some k_ = ((.slice A1_0 l1.length c1_0) : Value).ownBlock)) (.slice A1_0 l1.length c1_0) l1 from Kd.R_below Fa.out hb); have n1_ := Aside0.mk (show Kd.S (Kd.slice 3 (Kd.int .i64)) 24 w2_ w.heap.size (fun k_ => (w1_.heap.size ≤ k_ ∧ k_ < w2_.heap.size ∧ some k_ ≠ ((.slice A2_1 Z.length c2_1) : Value).ownBlock)) (.slice A2_0 Y.length c2_0) Y from Kd.S_lower (Kd.S_mono (Kd.S_bound ho0) (fun k_ hk => (⟨hk.2.1, hk.2.2.1, hk.1⟩ : _ ∧ _ ∧ _))) (below_size HB.out)); have n2_ := Aside0.mk (show Kd.R (Kd.int .i64) 3 w2_ w.heap.size (fun k_ => (w1_.heap.size ≤ k_ ∧ k_ < w2_.heap.size ∧ some k_ = ((.slice A2_1 Z.length c2_1) : Value).ownBlock)) (.slice A2_1 Z.length c2_1) Z from Kd.R_lower (Kd.R_mono (Kd.R_bound (Kd.R_tight rfl ho1)) (fun k_ hk => (⟨hk.2.1, hk.2.2.1, hk.1⟩ : _ ∧ _ ∧ _))) (below_size HB.out)); have nb_ := Aside0.mk (below_step HB.out hb); (try clear Fa); (try clear Fw); (try clear Fv); (try clear HB); (try clear hb); (try clear ho0); (try clear ho1); have Fa := n0_; have Fw := n1_; have Fv := n2_; have HB := nb_; clear nb_ n0_ n1_ n2_))
  go_wp2_with (first | (go_at_call 24; (with_reducible refine (laws_toIntS.calls k1 _ _ l1 l1 _ (Kd.C_below HR1.out HB.out) HC1.out E1.out).mono ?_); rintro e w3_ ⟨v3_0, rfl, ho0, hb⟩; obtain ⟨A3_0, c3_0, rfl⟩ := Kd.R_slice ho0; have s3_ := Aside0.mk hb.size; have n0_ := Aside0.mk (show Kd.R (Kd.int .i64) 3 w3_ w.heap.size (fun k_ => (w.heap.size ≤ k_ ∧ k_ < w1_.heap.size ∧ some k_ = ((.slice A1_0 l1.length c1_0) : Value).ownBlock)) (.slice A1_0 l1.length c1_0) l1 from Kd.R_below Fa.out hb); have n1_ := Aside0.mk (show Kd.S (Kd.slice 3 (Kd.int .i64)) 24 w3_ w.heap.size (fun k_ => (w1_.heap.size ≤ k_ ∧ k_ < w2_.heap.size ∧ some k_ ≠ ((.slice A2_1 Z.length c2_1) : Value).ownBlock)) (.slice A2_0 Y.length c2_0) Y from Kd.S_below Fw.out hb); have n2_ := Aside0.mk (show Kd.R (Kd.int .i64) 3 w3_ w.heap.size (fun k_ => (w1_.heap.size ≤ k_ ∧ k_ < w2_.heap.size ∧ some k_ = ((.slice A2_1 Z.length c2_1) : Value).ownBlock)) (.slice A2_1 Z.length c2_1) Z from Kd.R_below Fv.out hb); have n3_ := Aside0.mk (show Kd.R (Kd.int .i64) 3 w3_ w.heap.size (fun k_ => (w2_.heap.size ≤ k_ ∧ k_ < w3_.heap.size ∧ some k_ = ((.slice A3_0 l1.length c3_0) : Value).ownBlock)) (.slice A3_0 l1.length c3_0) l1 from Kd.R_lower (Kd.R_mono (Kd.R_bound (Kd.R_tight rfl ho0)) (fun k_ hk => (⟨hk.2.1, hk.2.2.1, hk.1⟩ : _ ∧ _ ∧ _))) (below_size HB.out)); have nb_ := Aside0.mk (below_step HB.out hb); (try clear Fa); (try clear Fw); (try clear Fv); (try clear Fx); (try clear HB); (try clear hb); (try clear ho0); have Fa := n0_; have Fw := n1_; have Fv := n2_; have Fx := n3_; have HB := nb_; clear nb_ n0_ n1_ n2_ n3_))
  go_wp2_with (first | (go_at_call 45; (with_reducible refine (impl_Dealt.calls k3 _ _ l1 p e Y Z b _ (Kd.R_reads' Fx.out).2.2 (Kd.R_reads' Fx.out).2.1 E3.out).mono ?_); rintro e w4_ ⟨v4_0, v4_1, rfl, ho0, ho1, hb⟩; obtain ⟨A4_0, c4_0, rfl⟩ := Kd.S_slice ho0; obtain ⟨A4_1, c4_1, rfl⟩ := Kd.R_slice ho1; have s4_ := Aside0.mk hb.size; have n0_ := Aside0.mk (show Kd.R (Kd.int .i64) 3 w4_ w.heap.size (fun k_ => (w.heap.size ≤ k_ ∧ k_ < w1_.heap.size ∧ some k_ = ((.slice A1_0 l1.length c1_0) : Value).ownBlock)) (.slice A1_0 l1.length c1_0) l1 from Kd.R_below Fa.out hb); have n1_ := Aside0.mk (show Kd.S (Kd.slice 3 (Kd.int .i64)) 24 w4_ w.heap.size (fun k_ => (w1_.heap.size ≤ k_ ∧ k_ < w2_.heap.size ∧ some k_ ≠ ((.slice A2_1 Z.length c2_1) : Value).ownBlock)) (.slice A2_0 Y.length c2_0) Y from Kd.S_below Fw.out hb); have n2_ := Aside0.mk (show Kd.R (Kd.int .i64) 3 w4_ w.heap.size (fun k_ => (w1_.heap.size ≤ k_ ∧ k_ < w2_.heap.size ∧ some k_ = ((.slice A2_1 Z.length c2_1) : Value).ownBlock)) (.slice A2_1 Z.length c2_1) Z from Kd.R_below Fv.out hb); have n3_ := Aside0.mk (show Kd.R (Kd.int .i64) 3 w4_ w.heap.size (fun k_ => (w2_.heap.size ≤ k_ ∧ k_ < w3_.heap.size ∧ some k_ = ((.slice A3_0 l1.length c3_0) : Value).ownBlock)) (.slice A3_0 l1.length c3_0) l1 from Kd.R_below Fx.out hb); have n4_ := Aside0.mk (show Kd.S (Kd.slice 3 (Kd.int .i64)) 24 w4_ w.heap.size (fun k_ => (w3_.heap.size ≤ k_ ∧ k_ < w4_.heap.size ∧ some k_ ≠ ((.slice A4_1 Z.length c4_1) : Value).ownBlock)) (.slice A4_0 Y.length c4_0) Y from Kd.S_lower (Kd.S_mono (Kd.S_bound ho0) (fun k_ hk => (⟨hk.2.1, hk.2.2.1, hk.1⟩ : _ ∧ _ ∧ _))) (below_size HB.out)); have n5_ := Aside0.mk (show Kd.R (Kd.int .i64) 3 w4_ w.heap.size (fun k_ => (w3_.heap.size ≤ k_ ∧ k_ < w4_.heap.size ∧ some k_ = ((.slice A4_1 Z.length c4_1) : Value).ownBlock)) (.slice A4_1 Z.length c4_1) Z from Kd.R_lower (Kd.R_mono (Kd.R_bound (Kd.R_tight rfl ho1)) (fun k_ hk => (⟨hk.2.1, hk.2.2.1, hk.1⟩ : _ ∧ _ ∧ _))) (below_size HB.out)); have nb_ := Aside0.mk (below_step HB.out hb); (try clear Fa); (try clear Fw); (try clear Fv); (try clear Fx); (try clear Fg); (try clear Fh); (try clear HB); (try clear hb); (try clear ho0); (try clear ho1); have Fa := n0_; have Fw := n1_; have Fv := n2_; have Fx := n3_; have Fg := n4_; have Fh := n5_; have HB := nb_; clear nb_ n0_ n1_ n2_ n3_ n4_ n5_))
  go_wp2_with (first | (go_at_call 46; (with_reducible refine (laws_eqIntSS.calls k4 _ _ Y _ _ Y true _ (Kd.S_reads' Fg.out).2.2 (Kd.S_reads' Fg.out).2.1 (Kd.S_reads' Fw.out).2.2 (Kd.S_reads' Fw.out).2.1 E4.out).mono ?_); rintro e w5_ ⟨rfl, hd⟩; have hb := hd.below; have s5_ := Aside0.mk hb.size; have n0_ := Aside0.mk (show Kd.R (Kd.int .i64) 3 w5_ w.heap.size (fun k_ => (w.heap.size ≤ k_ ∧ k_ < w1_.heap.size ∧ some k_ = ((.slice A1_0 l1.length c1_0) : Value).ownBlock)) (.slice A1_0 l1.length c1_0) l1 from Kd.R_below Fa.out hb); have n1_ := Aside0.mk (show Kd.S (Kd.slice 3 (Kd.int .i64)) 24 w5_ w.heap.size (fun k_ => (w1_.heap.size ≤ k_ ∧ k_ < w2_.heap.size ∧ some k_ ≠ ((.slice A2_1 Z.length c2_1) : Value).ownBlock)) (.slice A2_0 Y.length c2_0) Y from Kd.S_below Fw.out hb); have n2_ := Aside0.mk (show Kd.R (Kd.int .i64) 3 w5_ w.heap.size (fun k_ => (w1_.heap.size ≤ k_ ∧ k_ < w2_.heap.size ∧ some k_ = ((.slice A2_1 Z.length c2_1) : Value).ownBlock)) (.slice A2_1 Z.length c2_1) Z from Kd.R_below Fv.out hb); have n3_ := Aside0.mk (show Kd.R (Kd.int .i64) 3 w5_ w.heap.size (fun k_ => (w2_.heap.size ≤ k_ ∧ k_ < w3_.heap.size ∧ some k_ = ((.slice A3_0 l1.length c3_0) : Value).ownBlock)) (.slice A3_0 l1.length c3_0) l1 from Kd.R_below Fx.out hb); have n4_ := Aside0.mk (show Kd.S (Kd.slice 3 (Kd.int .i64)) 24 w5_ w.heap.size (fun k_ => (w3_.heap.size ≤ k_ ∧ k_ < w4_.heap.size ∧ some k_ ≠ ((.slice A4_1 Z.length c4_1) : Value).ownBlock)) (.slice A4_0 Y.length c4_0) Y from Kd.S_below Fg.out hb); have n5_ := Aside0.mk (show Kd.R (Kd.int .i64) 3 w5_ w.heap.size (fun k_ => (w3_.heap.size ≤ k_ ∧ k_ < w4_.heap.size ∧ some k_ = ((.slice A4_1 Z.length c4_1) : Value).ownBlock)) (.slice A4_1 Z.length c4_1) Z from Kd.R_below Fh.out hb); have nb_ := Aside0.mk (below_step HB.out hb); (try clear Fa); (try clear Fw); (try clear Fv); (try clear Fx); (try clear Fg); (try clear Fh); (try clear HB); (try clear hb); (try clear hd); have Fa := n0_; have Fw := n1_; have Fv := n2_; have Fx := n3_; have Fg := n4_; have Fh := n5_; have HB := nb_; clear nb_ n0_ n1_ n2_ n3_ n4_ n5_))
  go_wp2_with (first | (go_at_call 26; (with_reducible refine (laws_eqIntS.calls k5 _ _ Z _ _ Z true _ (Kd.R_reads' Fh.out).2.2 (Kd.R_reads' Fh.out).2.1 (Kd.R_reads' Fv.out).2.2 (Kd.R_reads' Fv.out).2.1 E5.out).mono ?_); rintro e w6_ ⟨rfl, hd⟩; have hb := hd.below; have s6_ := Aside0.mk hb.size; have n0_ := Aside0.mk (show Kd.R (Kd.int .i64) 3 w6_ w.heap.size (fun k_ => (w.heap.size ≤ k_ ∧ k_ < w1_.heap.size ∧ some k_ = ((.slice A1_0 l1.length c1_0) : Value).ownBlock)) (.slice A1_0 l1.length c1_0) l1 from Kd.R_below Fa.out hb); have n1_ := Aside0.mk (show Kd.S (Kd.slice 3 (Kd.int .i64)) 24 w6_ w.heap.size (fun k_ => (w1_.heap.size ≤ k_ ∧ k_ < w2_.heap.size ∧ some k_ ≠ ((.slice A2_1 Z.length c2_1) : Value).ownBlock)) (.slice A2_0 Y.length c2_0) Y from Kd.S_below Fw.out hb); have n2_ := Aside0.mk (show Kd.R (Kd.int .i64) 3 w6_ w.heap.size (fun k_ => (w1_.heap.size ≤ k_ ∧ k_ < w2_.heap.size ∧ some k_ = ((.slice A2_1 Z.length c2_1) : Value).ownBlock)) (.slice A2_1 Z.length c2_1) Z from Kd.R_below Fv.out hb); have n3_ := Aside0.mk (show Kd.R (Kd.int .i64) 3 w6_ w.heap.size (fun k_ => (w2_.heap.size ≤ k_ ∧ k_ < w3_.heap.size ∧ some k_ = ((.slice A3_0 l1.length c3_0) : Value).ownBlock)) (.slice A3_0 l1.length c3_0) l1 from Kd.R_below Fx.out hb); have n4_ := Aside0.mk (show Kd.S (Kd.slice 3 (Kd.int .i64)) 24 w6_ w.heap.size (fun k_ => (w3_.heap.size ≤ k_ ∧ k_ < w4_.heap.size ∧ some k_ ≠ ((.slice A4_1 Z.length c4_1) : Value).ownBlock)) (.slice A4_0 Y.length c4_0) Y from Kd.S_below Fg.out hb); have n5_ := Aside0.mk (show Kd.R (Kd.int .i64) 3 w6_ w.heap.size (fun k_ => (w3_.heap.size ≤ k_ ∧ k_ < w4_.heap.size ∧ some k_ = ((.slice A4_1 Z.length c4_1) : Value).ownBlock)) (.slice A4_1 Z.length c4_1) Z from Kd.R_below Fh.out hb); have nb_ := Aside0.mk (below_step HB.out hb); (try clear Fa); (try clear Fw); (try clear Fv); (try clear Fx); (try clear Fg); (try clear Fh); (try clear HB); (try clear hb); (try clear hd); have Fa := n0_; have Fw := n1_; have Fv := n2_; have Fx := n3_; have Fg := n4_; have Fh := n5_; have HB := nb_; clear nb_ n0_ n1_ n2_ n3_ n4_ n5_))
  go_wp2_with (first | (go_at_call 24; (with_reducible refine (laws_toIntS.calls k1 _ _ l1 l1 _ (Kd.C_below HR1.out HB.out) HC1.out E1.out).mono ?_); rintro e w7_ ⟨v7_0, rfl, ho0, hb⟩; obtain ⟨A7_0, c7_0, rfl⟩ := Kd.R_slice ho0; have s7_ := Aside0.mk hb.size; have n0_ := Aside0.mk (show Kd.R (Kd.int .i64) 3 w7_ w.heap.size (fun k_ => (w.heap.size ≤ k_ ∧ k_ < w1_.heap.size ∧ some k_ = ((.slice A1_0 l1.length c1_0) : Value).ownBlock)) (.slice A1_0 l1.length c1_0) l1 from Kd.R_below Fa.out hb); have n1_ := Aside0.mk (show Kd.S (Kd.slice 3 (Kd.int .i64)) 24 w7_ w.heap.size (fun k_ => (w1_.heap.size ≤ k_ ∧ k_ < w2_.heap.size ∧ some k_ ≠ ((.slice A2_1 Z.length c2_1) : Value).ownBlock)) (.slice A2_0 Y.length c2_0) Y from Kd.S_below Fw.out hb); have n2_ := Aside0.mk (show Kd.R (Kd.int .i64) 3 w7_ w.heap.size (fun k_ => (w1_.heap.size ≤ k_ ∧ k_ < w2_.heap.size ∧ some k_ = ((.slice A2_1 Z.length c2_1) : Value).ownBlock)) (.slice A2_1 Z.length c2_1) Z from Kd.R_below Fv.out hb); have n3_ := Aside0.mk (show Kd.R (Kd.int .i64) 3 w7_ w.heap.size (fun k_ => (w2_.heap.size ≤ k_ ∧ k_ < w3_.heap.size ∧ some k_ = ((.slice A3_0 l1.length c3_0) : Value).ownBlock)) (.slice A3_0 l1.length c3_0) l1 from Kd.R_below Fx.out hb); have n4_ := Aside0.mk (show Kd.S (Kd.slice 3 (Kd.int .i64)) 24 w7_ w.heap.size (fun k_ => (w3_.heap.size ≤ k_ ∧ k_ < w4_.heap.size ∧ some k_ ≠ ((.slice A4_1 Z.length c4_1) : Value).ownBlock)) (.slice A4_0 Y.length c4_0) Y from Kd.S_below Fg.out hb); have n5_ := Aside0.mk (show Kd.R (Kd.int .i64) 3 w7_ w.heap.size (fun k_ => (w3_.heap.size ≤ k_ ∧ k_ < w4_.heap.size ∧ some k_ = ((.slice A4_1 Z.length c4_1) : Value).ownBlock)) (.slice A4_1 Z.length c4_1) Z from Kd.R_below Fh.out hb); have n6_ := Aside0.mk (show Kd.R (Kd.int .i64) 3 w7_ w.heap.size (fun k_ => (w6_.heap.size ≤ k_ ∧ k_ < w7_.heap.size ∧ some k_ = ((.slice A7_0 l1.length c7_0) : Value).ownBlock)) (.slice A7_0 l1.length c7_0) l1 from Kd.R_lower (Kd.R_mono (Kd.R_bound (Kd.R_tight rfl ho0)) (fun k_ hk => (⟨hk.2.1, hk.2.2.1, hk.1⟩ : _ ∧ _ ∧ _))) (below_size HB.out)); have nb_ := Aside0.mk (below_step HB.out hb); (try clear Fa); (try clear Fw); (try clear Fv); (try clear Fx); (try clear Fg); (try clear Fh); (try clear Fb); (try clear HB); (try clear hb); (try clear ho0); have Fa := n0_; have Fw := n1_; have Fv := n2_; have Fx := n3_; have Fg := n4_; have Fh := n5_; have Fb := n6_; have HB := nb_; clear nb_ n0_ n1_ n2_ n3_ n4_ n5_ n6_))
  go_wp2_with (first | (go_at_call 26; (with_reducible refine (laws_eqIntS.calls k6 _ _ l1 _ _ l1 true _ (Kd.R_reads' Fx.out).2.2 (Kd.R_reads' Fx.out).2.1 (Kd.R_reads' Fb.out).2.2 (Kd.R_reads' Fb.out).2.1 E6.out).mono ?_); rintro e w8_ ⟨rfl, hd⟩; have hb := hd.below; have s8_ := Aside0.mk hb.size; have n0_ := Aside0.mk (show Kd.R (Kd.int .i64) 3 w8_ w.heap.size (fun k_ => (w.heap.size ≤ k_ ∧ k_ < w1_.heap.size ∧ some k_ = ((.slice A1_0 l1.length c1_0) : Value).ownBlock)) (.slice A1_0 l1.length c1_0) l1 from Kd.R_below Fa.out hb); have n1_ := Aside0.mk (show Kd.S (Kd.slice 3 (Kd.int .i64)) 24 w8_ w.heap.size (fun k_ => (w1_.heap.size ≤ k_ ∧ k_ < w2_.heap.size ∧ some k_ ≠ ((.slice A2_1 Z.length c2_1) : Value).ownBlock)) (.slice A2_0 Y.length c2_0) Y from Kd.S_below Fw.out hb); have n2_ := Aside0.mk (show Kd.R (Kd.int .i64) 3 w8_ w.heap.size (fun k_ => (w1_.heap.size ≤ k_ ∧ k_ < w2_.heap.size ∧ some k_ = ((.slice A2_1 Z.length c2_1) : Value).ownBlock)) (.slice A2_1 Z.length c2_1) Z from Kd.R_below Fv.out hb); have n3_ := Aside0.mk (show Kd.R (Kd.int .i64) 3 w8_ w.heap.size (fun k_ => (w2_.heap.size ≤ k_ ∧ k_ < w3_.heap.size ∧ some k_ = ((.slice A3_0 l1.length c3_0) : Value).ownBlock)) (.slice A3_0 l1.length c3_0) l1 from Kd.R_below Fx.out hb); have n4_ := Aside0.mk (show Kd.S (Kd.slice 3 (Kd.int .i64)) 24 w8_ w.heap.size (fun k_ => (w3_.heap.size ≤ k_ ∧ k_ < w4_.heap.size ∧ some k_ ≠ ((.slice A4_1 Z.length c4_1) : Value).ownBlock)) (.slice A4_0 Y.length c4_0) Y from Kd.S_below Fg.out hb); have n5_ := Aside0.mk (show Kd.R (Kd.int .i64) 3 w8_ w.heap.size (fun k_ => (w3_.heap.size ≤ k_ ∧ k_ < w4_.heap.size ∧ some k_ = ((.slice A4_1 Z.length c4_1) : Value).ownBlock)) (.slice A4_1 Z.length c4_1) Z from Kd.R_below Fh.out hb); have n6_ := Aside0.mk (show Kd.R (Kd.int .i64) 3 w8_ w.heap.size (fun k_ => (w6_.heap.size ≤ k_ ∧ k_ < w7_.heap.size ∧ some k_ = ((.slice A7_0 l1.length c7_0) : Value).ownBlock)) (.slice A7_0 l1.length c7_0) l1 from Kd.R_below Fb.out hb); have nb_ := Aside0.mk (below_step HB.out hb); (try clear Fa); (try clear Fw); (try clear Fv); (try clear Fx); (try clear Fg); (try clear Fh); (try clear Fb); (try clear HB); (try clear hb); (try clear hd); have Fa := n0_; have Fw := n1_; have Fv := n2_; have Fx := n3_; have Fg := n4_; have Fh := n5_; have Fb := n6_; have HB := nb_; clear nb_ n0_ n1_ n2_ n3_ n4_ n5_ n6_))
  clear Fa Fb
  go_wp2_with (first | (go_at_call 27; (with_reducible refine (laws_markIntS.calls k7 (fun k_ => (w2_.heap.size ≤ k_ ∧ k_ < w3_.heap.size ∧ some k_ = ((.slice A3_0 l1.length c3_0) : Value).ownBlock)) _ l1 1 t1 X1 w _ HB.out Fx.out E7.out).mono ?_); rintro e w9_ ⟨rfl, ho, hb, hk⟩; have s9_ := Aside0.mk hk.1; have n0_ := Aside0.mk (show Kd.S (Kd.slice 3 (Kd.int .i64)) 24 w9_ w.heap.size (fun k_ => (w1_.heap.size ≤ k_ ∧ k_ < w2_.heap.size ∧ some k_ ≠ ((.slice A2_1 Z.length c2_1) : Value).ownBlock)) (.slice A2_0 Y.length c2_0) Y from Kd.S_kept Fw.out hk (fun k_ (h1_ : (w1_.heap.size ≤ k_ ∧ k_ < w2_.heap.size ∧ some k_ ≠ ((.slice A2_1 Z.length c2_1) : Value).ownBlock)) (h2_ : (w2_.heap.size ≤ k_ ∧ k_ < w3_.heap.size ∧ some k_ = ((.slice A3_0 l1.length c3_0) : Value).ownBlock)) => by have := s1_.out; have := s2_.out; have := s3_.out; have := s4_.out; have := s5_.out; have := s6_.out; have := s7_.out; have := s8_.out; (first | omega | exact h2_.2.2 h1_.2.2 | exact h1_.2.2 h2_.2.2))); have n1_ := Aside0.mk (show Kd.R (Kd.int .i64) 3 w9_ w.heap.size (fun k_ => (w1_.heap.size ≤ k_ ∧ k_ < w2_.heap.size ∧ some k_ = ((.slice A2_1 Z.length c2_1) : Value).ownBlock)) (.slice A2_1 Z.length c2_1) Z from Kd.R_kept Fv.out hk (fun k_ (h1_ : (w1_.heap.size ≤ k_ ∧ k_ < w2_.heap.size ∧ some k_ = ((.slice A2_1 Z.length c2_1) : Value).ownBlock)) (h2_ : (w2_.heap.size ≤ k_ ∧ k_ < w3_.heap.size ∧ some k_ = ((.slice A3_0 l1.length c3_0) : Value).ownBlock)) => by have := s1_.out; have := s2_.out; have := s3_.out; have := s4_.out; have := s5_.out; have := s6_.out; have := s7_.out; have := s8_.out; (first | omega | exact h2_.2.2 h1_.2.2 | exact h1_.2.2 h2_.2.2))); have n2_ := Aside0.mk (show Kd.S (Kd.slice 3 (Kd.int .i64)) 24 w9_ w.heap.size (fun k_ => (w3_.heap.size ≤ k_ ∧ k_ < w4_.heap.size ∧ some k_ ≠ ((.slice A4_1 Z.length c4_1) : Value).ownBlock)) (.slice A4_0 Y.length c4_0) Y from Kd.S_kept Fg.out hk (fun k_ (h1_ : (w3_.heap.size ≤ k_ ∧ k_ < w4_.heap.size ∧ some k_ ≠ ((.slice A4_1 Z.length c4_1) : Value).ownBlock)) (h2_ : (w2_.heap.size ≤ k_ ∧ k_ < w3_.heap.size ∧ some k_ = ((.slice A3_0 l1.length c3_0) : Value).ownBlock)) => by have := s1_.out; have := s2_.out; have := s3_.out; have := s4_.out; have := s5_.out; have := s6_.out; have := s7_.out; have := s8_.out; (first | omega | exact h2_.2.2 h1_.2.2 | exact h1_.2.2 h2_.2.2))); have n3_ := Aside0.mk (show Kd.R (Kd.int .i64) 3 w9_ w.heap.size (fun k_ => (w3_.heap.size ≤ k_ ∧ k_ < w4_.heap.size ∧ some k_ = ((.slice A4_1 Z.length c4_1) : Value).ownBlock)) (.slice A4_1 Z.length c4_1) Z from Kd.R_kept Fh.out hk (fun k_ (h1_ : (w3_.heap.size ≤ k_ ∧ k_ < w4_.heap.size ∧ some k_ = ((.slice A4_1 Z.length c4_1) : Value).ownBlock)) (h2_ : (w2_.heap.size ≤ k_ ∧ k_ < w3_.heap.size ∧ some k_ = ((.slice A3_0 l1.length c3_0) : Value).ownBlock)) => by have := s1_.out; have := s2_.out; have := s3_.out; have := s4_.out; have := s5_.out; have := s6_.out; have := s7_.out; have := s8_.out; (first | omega | exact h2_.2.2 h1_.2.2 | exact h1_.2.2 h2_.2.2))); have n4_ := Aside0.mk (show Kd.R (Kd.int .i64) 3 w9_ w.heap.size (fun k_ => (w2_.heap.size ≤ k_ ∧ k_ < w3_.heap.size ∧ some k_ = ((.slice A3_0 l1.length c3_0) : Value).ownBlock)) (.slice A3_0 l1.length c3_0) X1 from Kd.R_mono (Kd.R_tight rfl ho) (fun k_ e_ => Fx.out.1 k_ e_.symm)); have nb_ := Aside0.mk (hb); (try clear Fw); (try clear Fv); (try clear Fg); (try clear Fh); (try clear Fx); (try clear HB); (try clear hb); (try clear hk); (try clear ho); have Fw := n0_; have Fv := n1_; have Fg := n2_; have Fh := n3_; have Fx := n4_; have HB := nb_; clear nb_ n0_ n1_ n2_ n3_ n4_))
  go_wp2_with (first | (go_at_call 46; (with_reducible refine (laws_eqIntSS.calls k4 _ _ Y _ _ Y true _ (Kd.S_reads' Fg.out).2.2 (Kd.S_reads' Fg.out).2.1 (Kd.S_reads' Fw.out).2.2 (Kd.S_reads' Fw.out).2.1 E4.out).mono ?_); rintro e w10_ ⟨rfl, hd⟩; have hb := hd.below; have s10_ := Aside0.mk hb.size; have n0_ := Aside0.mk (show Kd.S (Kd.slice 3 (Kd.int .i64)) 24 w10_ w.heap.size (fun k_ => (w1_.heap.size ≤ k_ ∧ k_ < w2_.heap.size ∧ some k_ ≠ ((.slice A2_1 Z.length c2_1) : Value).ownBlock)) (.slice A2_0 Y.length c2_0) Y from Kd.S_below Fw.out hb); have n1_ := Aside0.mk (show Kd.R (Kd.int .i64) 3 w10_ w.heap.size (fun k_ => (w1_.heap.size ≤ k_ ∧ k_ < w2_.heap.size ∧ some k_ = ((.slice A2_1 Z.length c2_1) : Value).ownBlock)) (.slice A2_1 Z.length c2_1) Z from Kd.R_below Fv.out hb); have n2_ := Aside0.mk (show Kd.R (Kd.int .i64) 3 w10_ w.heap.size (fun k_ => (w2_.heap.size ≤ k_ ∧ k_ < w3_.heap.size ∧ some k_ = ((.slice A3_0 l1.length c3_0) : Value).ownBlock)) (.slice A3_0 l1.length c3_0) X1 from Kd.R_below Fx.out hb); have n3_ := Aside0.mk (show Kd.S (Kd.slice 3 (Kd.int .i64)) 24 w10_ w.heap.size (fun k_ => (w3_.heap.size ≤ k_ ∧ k_ < w4_.heap.size ∧ some k_ ≠ ((.slice A4_1 Z.length c4_1) : Value).ownBlock)) (.slice A4_0 Y.length c4_0) Y from Kd.S_below Fg.out hb); have n4_ := Aside0.mk (show Kd.R (Kd.int .i64) 3 w10_ w.heap.size (fun k_ => (w3_.heap.size ≤ k_ ∧ k_ < w4_.heap.size ∧ some k_ = ((.slice A4_1 Z.length c4_1) : Value).ownBlock)) (.slice A4_1 Z.length c4_1) Z from Kd.R_below Fh.out hb); have nb_ := Aside0.mk (below_step HB.out hb); (try clear Fw); (try clear Fv); (try clear Fx); (try clear Fg); (try clear Fh); (try clear HB); (try clear hb); (try clear hd); have Fw := n0_; have Fv := n1_; have Fx := n2_; have Fg := n3_; have Fh := n4_; have HB := nb_; clear nb_ n0_ n1_ n2_ n3_ n4_))
  go_wp2_with (first | (go_at_call 26; (with_reducible refine (laws_eqIntS.calls k5 _ _ Z _ _ Z true _ (Kd.R_reads' Fh.out).2.2 (Kd.R_reads' Fh.out).2.1 (Kd.R_reads' Fv.out).2.2 (Kd.R_reads' Fv.out).2.1 E5.out).mono ?_); rintro e w11_ ⟨rfl, hd⟩; have hb := hd.below; have s11_ := Aside0.mk hb.size; have n0_ := Aside0.mk (show Kd.S (Kd.slice 3 (Kd.int .i64)) 24 w11_ w.heap.size (fun k_ => (w1_.heap.size ≤ k_ ∧ k_ < w2_.heap.size ∧ some k_ ≠ ((.slice A2_1 Z.length c2_1) : Value).ownBlock)) (.slice A2_0 Y.length c2_0) Y from Kd.S_below Fw.out hb); have n1_ := Aside0.mk (show Kd.R (Kd.int .i64) 3 w11_ w.heap.size (fun k_ => (w1_.heap.size ≤ k_ ∧ k_ < w2_.heap.size ∧ some k_ = ((.slice A2_1 Z.length c2_1) : Value).ownBlock)) (.slice A2_1 Z.length c2_1) Z from Kd.R_below Fv.out hb); have n2_ := Aside0.mk (show Kd.R (Kd.int .i64) 3 w11_ w.heap.size (fun k_ => (w2_.heap.size ≤ k_ ∧ k_ < w3_.heap.size ∧ some k_ = ((.slice A3_0 l1.length c3_0) : Value).ownBlock)) (.slice A3_0 l1.length c3_0) X1 from Kd.R_below Fx.out hb); have n3_ := Aside0.mk (show Kd.S (Kd.slice 3 (Kd.int .i64)) 24 w11_ w.heap.size (fun k_ => (w3_.heap.size ≤ k_ ∧ k_ < w4_.heap.size ∧ some k_ ≠ ((.slice A4_1 Z.length c4_1) : Value).ownBlock)) (.slice A4_0 Y.length c4_0) Y from Kd.S_below Fg.out hb); have n4_ := Aside0.mk (show Kd.R (Kd.int .i64) 3 w11_ w.heap.size (fun k_ => (w3_.heap.size ≤ k_ ∧ k_ < w4_.heap.size ∧ some k_ = ((.slice A4_1 Z.length c4_1) : Value).ownBlock)) (.slice A4_1 Z.length c4_1) Z from Kd.R_below Fh.out hb); have nb_ := Aside0.mk (below_step HB.out hb); (try clear Fw); (try clear Fv); (try clear Fx); (try clear Fg); (try clear Fh); (try clear HB); (try clear hb); (try clear hd); have Fw := n0_; have Fv := n1_; have Fx := n2_; have Fg := n3_; have Fh := n4_; have HB := nb_; clear nb_ n0_ n1_ n2_ n3_ n4_))
  go_wp2_with (first | (go_at_call 47; (with_reducible refine (laws_markIntSS.calls k8 (fun k_ => (w3_.heap.size ≤ k_ ∧ k_ < w4_.heap.size ∧ some k_ ≠ ((.slice A4_1 Z.length c4_1) : Value).ownBlock)) _ Y 1 m1 M w _ HB.out Fg.out E8.out).mono ?_); rintro e w12_ ⟨rfl, ho, hb, hk⟩; have s12_ := Aside0.mk hk.1; have n0_ := Aside0.mk (show Kd.S (Kd.slice 3 (Kd.int .i64)) 24 w12_ w.heap.size (fun k_ => (w1_.heap.size ≤ k_ ∧ k_ < w2_.heap.size ∧ some k_ ≠ ((.slice A2_1 Z.length c2_1) : Value).ownBlock)) (.slice A2_0 Y.length c2_0) Y from Kd.S_kept Fw.out hk (fun k_ (h1_ : (w1_.heap.size ≤ k_ ∧ k_ < w2_.heap.size ∧ some k_ ≠ ((.slice A2_1 Z.length c2_1) : Value).ownBlock)) (h2_ : (w3_.heap.size ≤ k_ ∧ k_ < w4_.heap.size ∧ some k_ ≠ ((.slice A4_1 Z.length c4_1) : Value).ownBlock)) => by have := s1_.out; have := s2_.out; have := s3_.out; have := s4_.out; have := s5_.out; have := s6_.out; have := s7_.out; have := s8_.out; have := s9_.out; have := s10_.out; have := s11_.out; (first | omega | exact h2_.2.2 h1_.2.2 | exact h1_.2.2 h2_.2.2))); have n1_ := Aside0.mk (show Kd.R (Kd.int .i64) 3 w12_ w.heap.size (fun k_ => (w1_.heap.size ≤ k_ ∧ k_ < w2_.heap.size ∧ some k_ = ((.slice A2_1 Z.length c2_1) : Value).ownBlock)) (.slice A2_1 Z.length c2_1) Z from Kd.R_kept Fv.out hk (fun k_ (h1_ : (w1_.heap.size ≤ k_ ∧ k_ < w2_.heap.size ∧ some k_ = ((.slice A2_1 Z.length c2_1) : Value).ownBlock)) (h2_ : (w3_.heap.size ≤ k_ ∧ k_ < w4_.heap.size ∧ some k_ ≠ ((.slice A4_1 Z.length c4_1) : Value).ownBlock)) => by have := s1_.out; have := s2_.out; have := s3_.out; have := s4_.out; have := s5_.out; have := s6_.out; have := s7_.out; have := s8_.out; have := s9_.out; have := s10_.out; have := s11_.out; (first | omega | exact h2_.2.2 h1_.2.2 | exact h1_.2.2 h2_.2.2))); have n2_ := Aside0.mk (show Kd.R (Kd.int .i64) 3 w12_ w.heap.size (fun k_ => (w2_.heap.size ≤ k_ ∧ k_ < w3_.heap.size ∧ some k_ = ((.slice A3_0 l1.length c3_0) : Value).ownBlock)) (.slice A3_0 l1.length c3_0) X1 from Kd.R_kept Fx.out hk (fun k_ (h1_ : (w2_.heap.size ≤ k_ ∧ k_ < w3_.heap.size ∧ some k_ = ((.slice A3_0 l1.length c3_0) : Value).ownBlock)) (h2_ : (w3_.heap.size ≤ k_ ∧ k_ < w4_.heap.size ∧ some k_ ≠ ((.slice A4_1 Z.length c4_1) : Value).ownBlock)) => by have := s1_.out; have := s2_.out; have := s3_.out; have := s4_.out; have := s5_.out; have := s6_.out; have := s7_.out; have := s8_.out; have := s9_.out; have := s10_.out; have := s11_.out; (first | omega | exact h2_.2.2 h1_.2.2 | exact h1_.2.2 h2_.2.2))); have n3_ := Aside0.mk (show Kd.R (Kd.int .i64) 3 w12_ w.heap.size (fun k_ => (w3_.heap.size ≤ k_ ∧ k_ < w4_.heap.size ∧ some k_ = ((.slice A4_1 Z.length c4_1) : Value).ownBlock)) (.slice A4_1 Z.length c4_1) Z from Kd.R_kept Fh.out hk (fun k_ (h1_ : (w3_.heap.size ≤ k_ ∧ k_ < w4_.heap.size ∧ some k_ = ((.slice A4_1 Z.length c4_1) : Value).ownBlock)) (h2_ : (w3_.heap.size ≤ k_ ∧ k_ < w4_.heap.size ∧ some k_ ≠ ((.slice A4_1 Z.length c4_1) : Value).ownBlock)) => by have := s1_.out; have := s2_.out; have := s3_.out; have := s4_.out; have := s5_.out; have := s6_.out; have := s7_.out; have := s8_.out; have := s9_.out; have := s10_.out; have := s11_.out; (first | omega | exact h2_.2.2 h1_.2.2 | exact h1_.2.2 h2_.2.2))); have n4_ := Aside0.mk (show Kd.S (Kd.slice 3 (Kd.int .i64)) 24 w12_ w.heap.size (fun k_ => ((w3_.heap.size ≤ k_ ∧ k_ < w4_.heap.size ∧ some k_ ≠ ((.slice A4_1 Z.length c4_1) : Value).ownBlock) ∨ (w11_.heap.size ≤ k_ ∧ k_ < w12_.heap.size))) (.slice A4_0 Y.length c4_0) M from Kd.S_mono (Kd.S_bound ho) (fun k_ hk_ => hk_.1.elim .inl (fun h_ => .inr ⟨h_, hk_.2.2.1⟩))); have nb_ := Aside0.mk (hb); (try clear Fw); (try clear Fv); (try clear Fx); (try clear Fh); (try clear Fg); (try clear HB); (try clear hb); (try clear hk); (try clear ho); have Fw := n0_; have Fv := n1_; have Fx := n2_; have Fh := n3_; have Fg := n4_; have HB := nb_; clear nb_ n0_ n1_ n2_ n3_ n4_))
  go_wp2_with (first | (go_at_call 27; (with_reducible refine (laws_markIntS.calls k9 (fun k_ => (w3_.heap.size ≤ k_ ∧ k_ < w4_.heap.size ∧ some k_ = ((.slice A4_1 Z.length c4_1) : Value).ownBlock)) _ Z m1 m2 N w _ HB.out Fh.out E9.out).mono ?_); rintro e w13_ ⟨rfl, ho, hb, hk⟩; have s13_ := Aside0.mk hk.1; have n0_ := Aside0.mk (show Kd.S (Kd.slice 3 (Kd.int .i64)) 24 w13_ w.heap.size (fun k_ => (w1_.heap.size ≤ k_ ∧ k_ < w2_.heap.size ∧ some k_ ≠ ((.slice A2_1 Z.length c2_1) : Value).ownBlock)) (.slice A2_0 Y.length c2_0) Y from Kd.S_kept Fw.out hk (fun k_ (h1_ : (w1_.heap.size ≤ k_ ∧ k_ < w2_.heap.size ∧ some k_ ≠ ((.slice A2_1 Z.length c2_1) : Value).ownBlock)) (h2_ : (w3_.heap.size ≤ k_ ∧ k_ < w4_.heap.size ∧ some k_ = ((.slice A4_1 Z.length c4_1) : Value).ownBlock)) => by have := s1_.out; have := s2_.out; have := s3_.out; have := s4_.out; have := s5_.out; have := s6_.out; have := s7_.out; have := s8_.out; have := s9_.out; have := s10_.out; have := s11_.out; have := s12_.out; (first | omega | exact h2_.2.2 h1_.2.2 | exact h1_.2.2 h2_.2.2))); have n1_ := Aside0.mk (show Kd.R (Kd.int .i64) 3 w13_ w.heap.size (fun k_ => (w1_.heap.size ≤ k_ ∧ k_ < w2_.heap.size ∧ some k_ = ((.slice A2_1 Z.length c2_1) : Value).ownBlock)) (.slice A2_1 Z.length c2_1) Z from Kd.R_kept Fv.out hk (fun k_ (h1_ : (w1_.heap.size ≤ k_ ∧ k_ < w2_.heap.size ∧ some k_ = ((.slice A2_1 Z.length c2_1) : Value).ownBlock)) (h2_ : (w3_.heap.size ≤ k_ ∧ k_ < w4_.heap.size ∧ some k_ = ((.slice A4_1 Z.length c4_1) : Value).ownBlock)) => by have := s1_.out; have := s2_.out; have := s3_.out; have := s4_.out; have := s5_.out; have := s6_.out; have := s7_.out; have := s8_.out; have := s9_.out; have := s10_.out; have := s11_.out; have := s12_.out; (first | omega | exact h2_.2.2 h1_.2.2 | exact h1_.2.2 h2_.2.2))); have n2_ := Aside0.mk (show Kd.R (Kd.int .i64) 3 w13_ w.heap.size (fun k_ => (w2_.heap.size ≤ k_ ∧ k_ < w3_.heap.size ∧ some k_ = ((.slice A3_0 l1.length c3_0) : Value).ownBlock)) (.slice A3_0 l1.length c3_0) X1 from Kd.R_kept Fx.out hk (fun k_ (h1_ : (w2_.heap.size ≤ k_ ∧ k_ < w3_.heap.size ∧ some k_ = ((.slice A3_0 l1.length c3_0) : Value).ownBlock)) (h2_ : (w3_.heap.size ≤ k_ ∧ k_ < w4_.heap.size ∧ some k_ = ((.slice A4_1 Z.length c4_1) : Value).ownBlock)) => by have := s1_.out; have := s2_.out; have := s3_.out; have := s4_.out; have := s5_.out; have := s6_.out; have := s7_.out; have := s8_.out; have := s9_.out; have := s10_.out; have := s11_.out; have := s12_.out; (first | omega | exact h2_.2.2 h1_.2.2 | exact h1_.2.2 h2_.2.2))); have n3_ := Aside0.mk (show Kd.S (Kd.slice 3 (Kd.int .i64)) 24 w13_ w.heap.size (fun k_ => ((w3_.heap.size ≤ k_ ∧ k_ < w4_.heap.size ∧ some k_ ≠ ((.slice A4_1 Z.length c4_1) : Value).ownBlock) ∨ (w11_.heap.size ≤ k_ ∧ k_ < w12_.heap.size))) (.slice A4_0 Y.length c4_0) M from Kd.S_kept Fg.out hk (fun k_ (h1_ : ((w3_.heap.size ≤ k_ ∧ k_ < w4_.heap.size ∧ some k_ ≠ ((.slice A4_1 Z.length c4_1) : Value).ownBlock) ∨ (w11_.heap.size ≤ k_ ∧ k_ < w12_.heap.size))) (h2_ : (w3_.heap.size ≤ k_ ∧ k_ < w4_.heap.size ∧ some k_ = ((.slice A4_1 Z.length c4_1) : Value).ownBlock)) => by have := s1_.out; have := s2_.out; have := s3_.out; have := s4_.out; have := s5_.out; have := s6_.out; have := s7_.out; have := s8_.out; have := s9_.out; have := s10_.out; have := s11_.out; have := s12_.out; rcases h1_ with h1_ | h1_ <;> (first | omega | exact h2_.2.2 h1_.2.2 | exact h1_.2.2 h2_.2.2))); have n4_ := Aside0.mk (show Kd.R (Kd.int .i64) 3 w13_ w.heap.size (fun k_ => (w3_.heap.size ≤ k_ ∧ k_ < w4_.heap.size ∧ some k_ = ((.slice A4_1 Z.length c4_1) : Value).ownBlock)) (.slice A4_1 Z.length c4_1) N from Kd.R_mono (Kd.R_tight rfl ho) (fun k_ e_ => Fh.out.1 k_ e_.symm)); have nb_ := Aside0.mk (hb); (try clear Fw); (try clear Fv); (try clear Fx); (try clear Fg); (try clear Fh); (try clear HB); (try clear hb); (try clear hk); (try clear ho); have Fw := n0_; have Fv := n1_; have Fx := n2_; have Fg := n3_; have Fh := n4_; have HB := nb_; clear nb_ n0_ n1_ n2_ n3_ n4_))
  go_wp2_with (first | (go_at_call 48; refine calls_of_args (args' := #[.slice A4_0 M.length c4_0, .int .i64 1]) (by rw [← (Kd.S_reads' Fg.out).1]) ?_; (with_reducible refine (laws_heldIntSS.calls k10 _ _ M 1 m1 _ (Kd.S_reads' Fg.out).2.2 (by have h_ := Kd.S_reads' Fg.out; omega) E10.out).mono ?_); rintro e w14_ ⟨rfl, hd⟩; have hb := hd.below; have s14_ := Aside0.mk hb.size; have n0_ := Aside0.mk (show Kd.S (Kd.slice 3 (Kd.int .i64)) 24 w14_ w.heap.size (fun k_ => (w1_.heap.size ≤ k_ ∧ k_ < w2_.heap.size ∧ some k_ ≠ ((.slice A2_1 Z.length c2_1) : Value).ownBlock)) (.slice A2_0 Y.length c2_0) Y from Kd.S_below Fw.out hb); have n1_ := Aside0.mk (show Kd.R (Kd.int .i64) 3 w14_ w.heap.size (fun k_ => (w1_.heap.size ≤ k_ ∧ k_ < w2_.heap.size ∧ some k_ = ((.slice A2_1 Z.length c2_1) : Value).ownBlock)) (.slice A2_1 Z.length c2_1) Z from Kd.R_below Fv.out hb); have n2_ := Aside0.mk (show Kd.R (Kd.int .i64) 3 w14_ w.heap.size (fun k_ => (w2_.heap.size ≤ k_ ∧ k_ < w3_.heap.size ∧ some k_ = ((.slice A3_0 l1.length c3_0) : Value).ownBlock)) (.slice A3_0 l1.length c3_0) X1 from Kd.R_below Fx.out hb); have n3_ := Aside0.mk (show Kd.S (Kd.slice 3 (Kd.int .i64)) 24 w14_ w.heap.size (fun k_ => ((w3_.heap.size ≤ k_ ∧ k_ < w4_.heap.size ∧ some k_ ≠ ((.slice A4_1 Z.length c4_1) : Value).ownBlock) ∨ (w11_.heap.size ≤ k_ ∧ k_ < w12_.heap.size))) (.slice A4_0 Y.length c4_0) M from Kd.S_below Fg.out hb); have n4_ := Aside0.mk (show Kd.R (Kd.int .i64) 3 w14_ w.heap.size (fun k_ => (w3_.heap.size ≤ k_ ∧ k_ < w4_.heap.size ∧ some k_ = ((.slice A4_1 Z.length c4_1) : Value).ownBlock)) (.slice A4_1 Z.length c4_1) N from Kd.R_below Fh.out hb); have nb_ := Aside0.mk (below_step HB.out hb); (try clear Fw); (try clear Fv); (try clear Fx); (try clear Fg); (try clear Fh); (try clear HB); (try clear hb); (try clear hd); have Fw := n0_; have Fv := n1_; have Fx := n2_; have Fg := n3_; have Fh := n4_; have HB := nb_; clear nb_ n0_ n1_ n2_ n3_ n4_))
  go_wp2_with (first | (go_at_call 28; refine calls_of_args (args' := #[.slice A4_1 N.length c4_1, .int .i64 m1]) (by rw [← (Kd.R_reads' Fh.out).1]) ?_; (with_reducible refine (laws_heldIntS.calls k11 _ _ N m1 m2 _ (Kd.R_reads' Fh.out).2.2 (by have h_ := Kd.R_reads' Fh.out; omega) E11.out).mono ?_); rintro e w15_ ⟨rfl, hd⟩; have hb := hd.below; have s15_ := Aside0.mk hb.size; have n0_ := Aside0.mk (show Kd.S (Kd.slice 3 (Kd.int .i64)) 24 w15_ w.heap.size (fun k_ => (w1_.heap.size ≤ k_ ∧ k_ < w2_.heap.size ∧ some k_ ≠ ((.slice A2_1 Z.length c2_1) : Value).ownBlock)) (.slice A2_0 Y.length c2_0) Y from Kd.S_below Fw.out hb); have n1_ := Aside0.mk (show Kd.R (Kd.int .i64) 3 w15_ w.heap.size (fun k_ => (w1_.heap.size ≤ k_ ∧ k_ < w2_.heap.size ∧ some k_ = ((.slice A2_1 Z.length c2_1) : Value).ownBlock)) (.slice A2_1 Z.length c2_1) Z from Kd.R_below Fv.out hb); have n2_ := Aside0.mk (show Kd.R (Kd.int .i64) 3 w15_ w.heap.size (fun k_ => (w2_.heap.size ≤ k_ ∧ k_ < w3_.heap.size ∧ some k_ = ((.slice A3_0 l1.length c3_0) : Value).ownBlock)) (.slice A3_0 l1.length c3_0) X1 from Kd.R_below Fx.out hb); have n3_ := Aside0.mk (show Kd.S (Kd.slice 3 (Kd.int .i64)) 24 w15_ w.heap.size (fun k_ => ((w3_.heap.size ≤ k_ ∧ k_ < w4_.heap.size ∧ some k_ ≠ ((.slice A4_1 Z.length c4_1) : Value).ownBlock) ∨ (w11_.heap.size ≤ k_ ∧ k_ < w12_.heap.size))) (.slice A4_0 Y.length c4_0) M from Kd.S_below Fg.out hb); have n4_ := Aside0.mk (show Kd.R (Kd.int .i64) 3 w15_ w.heap.size (fun k_ => (w3_.heap.size ≤ k_ ∧ k_ < w4_.heap.size ∧ some k_ = ((.slice A4_1 Z.length c4_1) : Value).ownBlock)) (.slice A4_1 Z.length c4_1) N from Kd.R_below Fh.out hb); have nb_ := Aside0.mk (below_step HB.out hb); (try clear Fw); (try clear Fv); (try clear Fx); (try clear Fg); (try clear Fh); (try clear HB); (try clear hb); (try clear hd); have Fw := n0_; have Fv := n1_; have Fx := n2_; have Fg := n3_; have Fh := n4_; have HB := nb_; clear nb_ n0_ n1_ n2_ n3_ n4_))
  clear Fx
  go_wp2_with (first | (go_at_call 24; (with_reducible refine (laws_toIntS.calls k1 _ _ l1 l1 _ (Kd.C_below HR1.out HB.out) HC1.out E1.out).mono ?_); rintro e w16_ ⟨v16_0, rfl, ho0, hb⟩; obtain ⟨A16_0, c16_0, rfl⟩ := Kd.R_slice ho0; have s16_ := Aside0.mk hb.size; have n0_ := Aside0.mk (show Kd.S (Kd.slice 3 (Kd.int .i64)) 24 w16_ w.heap.size (fun k_ => (w1_.heap.size ≤ k_ ∧ k_ < w2_.heap.size ∧ some k_ ≠ ((.slice A2_1 Z.length c2_1) : Value).ownBlock)) (.slice A2_0 Y.length c2_0) Y from Kd.S_below Fw.out hb); have n1_ := Aside0.mk (show Kd.R (Kd.int .i64) 3 w16_ w.heap.size (fun k_ => (w1_.heap.size ≤ k_ ∧ k_ < w2_.heap.size ∧ some k_ = ((.slice A2_1 Z.length c2_1) : Value).ownBlock)) (.slice A2_1 Z.length c2_1) Z from Kd.R_below Fv.out hb); have n2_ := Aside0.mk (show Kd.S (Kd.slice 3 (Kd.int .i64)) 24 w16_ w.heap.size (fun k_ => ((w3_.heap.size ≤ k_ ∧ k_ < w4_.heap.size ∧ some k_ ≠ ((.slice A4_1 Z.length c4_1) : Value).ownBlock) ∨ (w11_.heap.size ≤ k_ ∧ k_ < w12_.heap.size))) (.slice A4_0 Y.length c4_0) M from Kd.S_below Fg.out hb); have n3_ := Aside0.mk (show Kd.R (Kd.int .i64) 3 w16_ w.heap.size (fun k_ => (w3_.heap.size ≤ k_ ∧ k_ < w4_.heap.size ∧ some k_ = ((.slice A4_1 Z.length c4_1) : Value).ownBlock)) (.slice A4_1 Z.length c4_1) N from Kd.R_below Fh.out hb); have n4_ := Aside0.mk (show Kd.R (Kd.int .i64) 3 w16_ w.heap.size (fun k_ => (w15_.heap.size ≤ k_ ∧ k_ < w16_.heap.size ∧ some k_ = ((.slice A16_0 l1.length c16_0) : Value).ownBlock)) (.slice A16_0 l1.length c16_0) l1 from Kd.R_lower (Kd.R_mono (Kd.R_bound (Kd.R_tight rfl ho0)) (fun k_ hk => (⟨hk.2.1, hk.2.2.1, hk.1⟩ : _ ∧ _ ∧ _))) (below_size HB.out)); have nb_ := Aside0.mk (below_step HB.out hb); (try clear Fw); (try clear Fv); (try clear Fg); (try clear Fh); (try clear Fx); (try clear HB); (try clear hb); (try clear ho0); have Fw := n0_; have Fv := n1_; have Fg := n2_; have Fh := n3_; have Fx := n4_; have HB := nb_; clear nb_ n0_ n1_ n2_ n3_ n4_))
  go_wp2_with (first | (go_at_call 45; (with_reducible refine (impl_Dealt.calls k3 _ _ l1 p e Y Z b _ (Kd.R_reads' Fx.out).2.2 (Kd.R_reads' Fx.out).2.1 E3.out).mono ?_); rintro e w17_ ⟨v17_0, v17_1, rfl, ho0, ho1, hb⟩; obtain ⟨A17_0, c17_0, rfl⟩ := Kd.S_slice ho0; obtain ⟨A17_1, c17_1, rfl⟩ := Kd.R_slice ho1; have s17_ := Aside0.mk hb.size; have n0_ := Aside0.mk (show Kd.S (Kd.slice 3 (Kd.int .i64)) 24 w17_ w.heap.size (fun k_ => (w1_.heap.size ≤ k_ ∧ k_ < w2_.heap.size ∧ some k_ ≠ ((.slice A2_1 Z.length c2_1) : Value).ownBlock)) (.slice A2_0 Y.length c2_0) Y from Kd.S_below Fw.out hb); have n1_ := Aside0.mk (show Kd.R (Kd.int .i64) 3 w17_ w.heap.size (fun k_ => (w1_.heap.size ≤ k_ ∧ k_ < w2_.heap.size ∧ some k_ = ((.slice A2_1 Z.length c2_1) : Value).ownBlock)) (.slice A2_1 Z.length c2_1) Z from Kd.R_below Fv.out hb); have n2_ := Aside0.mk (show Kd.S (Kd.slice 3 (Kd.int .i64)) 24 w17_ w.heap.size (fun k_ => ((w3_.heap.size ≤ k_ ∧ k_ < w4_.heap.size ∧ some k_ ≠ ((.slice A4_1 Z.length c4_1) : Value).ownBlock) ∨ (w11_.heap.size ≤ k_ ∧ k_ < w12_.heap.size))) (.slice A4_0 Y.length c4_0) M from Kd.S_below Fg.out hb); have n3_ := Aside0.mk (show Kd.R (Kd.int .i64) 3 w17_ w.heap.size (fun k_ => (w3_.heap.size ≤ k_ ∧ k_ < w4_.heap.size ∧ some k_ = ((.slice A4_1 Z.length c4_1) : Value).ownBlock)) (.slice A4_1 Z.length c4_1) N from Kd.R_below Fh.out hb); have n4_ := Aside0.mk (show Kd.R (Kd.int .i64) 3 w17_ w.heap.size (fun k_ => (w15_.heap.size ≤ k_ ∧ k_ < w16_.heap.size ∧ some k_ = ((.slice A16_0 l1.length c16_0) : Value).ownBlock)) (.slice A16_0 l1.length c16_0) l1 from Kd.R_below Fx.out hb); have n5_ := Aside0.mk (show Kd.S (Kd.slice 3 (Kd.int .i64)) 24 w17_ w.heap.size (fun k_ => (w16_.heap.size ≤ k_ ∧ k_ < w17_.heap.size ∧ some k_ ≠ ((.slice A17_1 Z.length c17_1) : Value).ownBlock)) (.slice A17_0 Y.length c17_0) Y from Kd.S_lower (Kd.S_mono (Kd.S_bound ho0) (fun k_ hk => (⟨hk.2.1, hk.2.2.1, hk.1⟩ : _ ∧ _ ∧ _))) (below_size HB.out)); have n6_ := Aside0.mk (show Kd.R (Kd.int .i64) 3 w17_ w.heap.size (fun k_ => (w16_.heap.size ≤ k_ ∧ k_ < w17_.heap.size ∧ some k_ = ((.slice A17_1 Z.length c17_1) : Value).ownBlock)) (.slice A17_1 Z.length c17_1) Z from Kd.R_lower (Kd.R_mono (Kd.R_bound (Kd.R_tight rfl ho1)) (fun k_ hk => (⟨hk.2.1, hk.2.2.1, hk.1⟩ : _ ∧ _ ∧ _))) (below_size HB.out)); have nb_ := Aside0.mk (below_step HB.out hb); (try clear Fw); (try clear Fv); (try clear Fg); (try clear Fh); (try clear Fx); (try clear Fi); (try clear Fj); (try clear HB); (try clear hb); (try clear ho0); (try clear ho1); have Fw := n0_; have Fv := n1_; have Fg := n2_; have Fh := n3_; have Fx := n4_; have Fi := n5_; have Fj := n6_; have HB := nb_; clear nb_ n0_ n1_ n2_ n3_ n4_ n5_ n6_))
  go_wp2_with (first | (go_at_call 46; (with_reducible refine (laws_eqIntSS.calls k4 _ _ Y _ _ Y true _ (Kd.S_reads' Fi.out).2.2 (Kd.S_reads' Fi.out).2.1 (Kd.S_reads' Fw.out).2.2 (Kd.S_reads' Fw.out).2.1 E4.out).mono ?_); rintro e w18_ ⟨rfl, hd⟩; have hb := hd.below; have s18_ := Aside0.mk hb.size; have n0_ := Aside0.mk (show Kd.S (Kd.slice 3 (Kd.int .i64)) 24 w18_ w.heap.size (fun k_ => (w1_.heap.size ≤ k_ ∧ k_ < w2_.heap.size ∧ some k_ ≠ ((.slice A2_1 Z.length c2_1) : Value).ownBlock)) (.slice A2_0 Y.length c2_0) Y from Kd.S_below Fw.out hb); have n1_ := Aside0.mk (show Kd.R (Kd.int .i64) 3 w18_ w.heap.size (fun k_ => (w1_.heap.size ≤ k_ ∧ k_ < w2_.heap.size ∧ some k_ = ((.slice A2_1 Z.length c2_1) : Value).ownBlock)) (.slice A2_1 Z.length c2_1) Z from Kd.R_below Fv.out hb); have n2_ := Aside0.mk (show Kd.S (Kd.slice 3 (Kd.int .i64)) 24 w18_ w.heap.size (fun k_ => ((w3_.heap.size ≤ k_ ∧ k_ < w4_.heap.size ∧ some k_ ≠ ((.slice A4_1 Z.length c4_1) : Value).ownBlock) ∨ (w11_.heap.size ≤ k_ ∧ k_ < w12_.heap.size))) (.slice A4_0 Y.length c4_0) M from Kd.S_below Fg.out hb); have n3_ := Aside0.mk (show Kd.R (Kd.int .i64) 3 w18_ w.heap.size (fun k_ => (w3_.heap.size ≤ k_ ∧ k_ < w4_.heap.size ∧ some k_ = ((.slice A4_1 Z.length c4_1) : Value).ownBlock)) (.slice A4_1 Z.length c4_1) N from Kd.R_below Fh.out hb); have n4_ := Aside0.mk (show Kd.R (Kd.int .i64) 3 w18_ w.heap.size (fun k_ => (w15_.heap.size ≤ k_ ∧ k_ < w16_.heap.size ∧ some k_ = ((.slice A16_0 l1.length c16_0) : Value).ownBlock)) (.slice A16_0 l1.length c16_0) l1 from Kd.R_below Fx.out hb); have n5_ := Aside0.mk (show Kd.S (Kd.slice 3 (Kd.int .i64)) 24 w18_ w.heap.size (fun k_ => (w16_.heap.size ≤ k_ ∧ k_ < w17_.heap.size ∧ some k_ ≠ ((.slice A17_1 Z.length c17_1) : Value).ownBlock)) (.slice A17_0 Y.length c17_0) Y from Kd.S_below Fi.out hb); have n6_ := Aside0.mk (show Kd.R (Kd.int .i64) 3 w18_ w.heap.size (fun k_ => (w16_.heap.size ≤ k_ ∧ k_ < w17_.heap.size ∧ some k_ = ((.slice A17_1 Z.length c17_1) : Value).ownBlock)) (.slice A17_1 Z.length c17_1) Z from Kd.R_below Fj.out hb); have nb_ := Aside0.mk (below_step HB.out hb); (try clear Fw); (try clear Fv); (try clear Fg); (try clear Fh); (try clear Fx); (try clear Fi); (try clear Fj); (try clear HB); (try clear hb); (try clear hd); have Fw := n0_; have Fv := n1_; have Fg := n2_; have Fh := n3_; have Fx := n4_; have Fi := n5_; have Fj := n6_; have HB := nb_; clear nb_ n0_ n1_ n2_ n3_ n4_ n5_ n6_))
  go_wp2_with (first | (go_at_call 26; (with_reducible refine (laws_eqIntS.calls k5 _ _ Z _ _ Z true _ (Kd.R_reads' Fj.out).2.2 (Kd.R_reads' Fj.out).2.1 (Kd.R_reads' Fv.out).2.2 (Kd.R_reads' Fv.out).2.1 E5.out).mono ?_); rintro e w19_ ⟨rfl, hd⟩; have hb := hd.below; have s19_ := Aside0.mk hb.size; have n0_ := Aside0.mk (show Kd.S (Kd.slice 3 (Kd.int .i64)) 24 w19_ w.heap.size (fun k_ => (w1_.heap.size ≤ k_ ∧ k_ < w2_.heap.size ∧ some k_ ≠ ((.slice A2_1 Z.length c2_1) : Value).ownBlock)) (.slice A2_0 Y.length c2_0) Y from Kd.S_below Fw.out hb); have n1_ := Aside0.mk (show Kd.R (Kd.int .i64) 3 w19_ w.heap.size (fun k_ => (w1_.heap.size ≤ k_ ∧ k_ < w2_.heap.size ∧ some k_ = ((.slice A2_1 Z.length c2_1) : Value).ownBlock)) (.slice A2_1 Z.length c2_1) Z from Kd.R_below Fv.out hb); have n2_ := Aside0.mk (show Kd.S (Kd.slice 3 (Kd.int .i64)) 24 w19_ w.heap.size (fun k_ => ((w3_.heap.size ≤ k_ ∧ k_ < w4_.heap.size ∧ some k_ ≠ ((.slice A4_1 Z.length c4_1) : Value).ownBlock) ∨ (w11_.heap.size ≤ k_ ∧ k_ < w12_.heap.size))) (.slice A4_0 Y.length c4_0) M from Kd.S_below Fg.out hb); have n3_ := Aside0.mk (show Kd.R (Kd.int .i64) 3 w19_ w.heap.size (fun k_ => (w3_.heap.size ≤ k_ ∧ k_ < w4_.heap.size ∧ some k_ = ((.slice A4_1 Z.length c4_1) : Value).ownBlock)) (.slice A4_1 Z.length c4_1) N from Kd.R_below Fh.out hb); have n4_ := Aside0.mk (show Kd.R (Kd.int .i64) 3 w19_ w.heap.size (fun k_ => (w15_.heap.size ≤ k_ ∧ k_ < w16_.heap.size ∧ some k_ = ((.slice A16_0 l1.length c16_0) : Value).ownBlock)) (.slice A16_0 l1.length c16_0) l1 from Kd.R_below Fx.out hb); have n5_ := Aside0.mk (show Kd.S (Kd.slice 3 (Kd.int .i64)) 24 w19_ w.heap.size (fun k_ => (w16_.heap.size ≤ k_ ∧ k_ < w17_.heap.size ∧ some k_ ≠ ((.slice A17_1 Z.length c17_1) : Value).ownBlock)) (.slice A17_0 Y.length c17_0) Y from Kd.S_below Fi.out hb); have n6_ := Aside0.mk (show Kd.R (Kd.int .i64) 3 w19_ w.heap.size (fun k_ => (w16_.heap.size ≤ k_ ∧ k_ < w17_.heap.size ∧ some k_ = ((.slice A17_1 Z.length c17_1) : Value).ownBlock)) (.slice A17_1 Z.length c17_1) Z from Kd.R_below Fj.out hb); have nb_ := Aside0.mk (below_step HB.out hb); (try clear Fw); (try clear Fv); (try clear Fg); (try clear Fh); (try clear Fx); (try clear Fi); (try clear Fj); (try clear HB); (try clear hb); (try clear hd); have Fw := n0_; have Fv := n1_; have Fg := n2_; have Fh := n3_; have Fx := n4_; have Fi := n5_; have Fj := n6_; have HB := nb_; clear nb_ n0_ n1_ n2_ n3_ n4_ n5_ n6_))
  go_wp2_with (first | (go_at_call 48; refine calls_of_args (args' := #[.slice A4_0 M.length c4_0, .int .i64 1]) (by rw [← (Kd.S_reads' Fg.out).1]) ?_; (with_reducible refine (laws_heldIntSS.calls k10 _ _ M 1 m1 _ (Kd.S_reads' Fg.out).2.2 (by have h_ := Kd.S_reads' Fg.out; omega) E10.out).mono ?_); rintro e w20_ ⟨rfl, hd⟩; have hb := hd.below; have s20_ := Aside0.mk hb.size; have n0_ := Aside0.mk (show Kd.S (Kd.slice 3 (Kd.int .i64)) 24 w20_ w.heap.size (fun k_ => (w1_.heap.size ≤ k_ ∧ k_ < w2_.heap.size ∧ some k_ ≠ ((.slice A2_1 Z.length c2_1) : Value).ownBlock)) (.slice A2_0 Y.length c2_0) Y from Kd.S_below Fw.out hb); have n1_ := Aside0.mk (show Kd.R (Kd.int .i64) 3 w20_ w.heap.size (fun k_ => (w1_.heap.size ≤ k_ ∧ k_ < w2_.heap.size ∧ some k_ = ((.slice A2_1 Z.length c2_1) : Value).ownBlock)) (.slice A2_1 Z.length c2_1) Z from Kd.R_below Fv.out hb); have n2_ := Aside0.mk (show Kd.S (Kd.slice 3 (Kd.int .i64)) 24 w20_ w.heap.size (fun k_ => ((w3_.heap.size ≤ k_ ∧ k_ < w4_.heap.size ∧ some k_ ≠ ((.slice A4_1 Z.length c4_1) : Value).ownBlock) ∨ (w11_.heap.size ≤ k_ ∧ k_ < w12_.heap.size))) (.slice A4_0 Y.length c4_0) M from Kd.S_below Fg.out hb); have n3_ := Aside0.mk (show Kd.R (Kd.int .i64) 3 w20_ w.heap.size (fun k_ => (w3_.heap.size ≤ k_ ∧ k_ < w4_.heap.size ∧ some k_ = ((.slice A4_1 Z.length c4_1) : Value).ownBlock)) (.slice A4_1 Z.length c4_1) N from Kd.R_below Fh.out hb); have n4_ := Aside0.mk (show Kd.R (Kd.int .i64) 3 w20_ w.heap.size (fun k_ => (w15_.heap.size ≤ k_ ∧ k_ < w16_.heap.size ∧ some k_ = ((.slice A16_0 l1.length c16_0) : Value).ownBlock)) (.slice A16_0 l1.length c16_0) l1 from Kd.R_below Fx.out hb); have n5_ := Aside0.mk (show Kd.S (Kd.slice 3 (Kd.int .i64)) 24 w20_ w.heap.size (fun k_ => (w16_.heap.size ≤ k_ ∧ k_ < w17_.heap.size ∧ some k_ ≠ ((.slice A17_1 Z.length c17_1) : Value).ownBlock)) (.slice A17_0 Y.length c17_0) Y from Kd.S_below Fi.out hb); have n6_ := Aside0.mk (show Kd.R (Kd.int .i64) 3 w20_ w.heap.size (fun k_ => (w16_.heap.size ≤ k_ ∧ k_ < w17_.heap.size ∧ some k_ = ((.slice A17_1 Z.length c17_1) : Value).ownBlock)) (.slice A17_1 Z.length c17_1) Z from Kd.R_below Fj.out hb); have nb_ := Aside0.mk (below_step HB.out hb); (try clear Fw); (try clear Fv); (try clear Fg); (try clear Fh); (try clear Fx); (try clear Fi); (try clear Fj); (try clear HB); (try clear hb); (try clear hd); have Fw := n0_; have Fv := n1_; have Fg := n2_; have Fh := n3_; have Fx := n4_; have Fi := n5_; have Fj := n6_; have HB := nb_; clear nb_ n0_ n1_ n2_ n3_ n4_ n5_ n6_))
  go_wp2_with (first | (go_at_call 28; refine calls_of_args (args' := #[.slice A4_1 N.length c4_1, .int .i64 m1]) (by rw [← (Kd.R_reads' Fh.out).1]) ?_; (with_reducible refine (laws_heldIntS.calls k11 _ _ N m1 m2 _ (Kd.R_reads' Fh.out).2.2 (by have h_ := Kd.R_reads' Fh.out; omega) E11.out).mono ?_); rintro e w21_ ⟨rfl, hd⟩; have hb := hd.below; have s21_ := Aside0.mk hb.size; have n0_ := Aside0.mk (show Kd.S (Kd.slice 3 (Kd.int .i64)) 24 w21_ w.heap.size (fun k_ => (w1_.heap.size ≤ k_ ∧ k_ < w2_.heap.size ∧ some k_ ≠ ((.slice A2_1 Z.length c2_1) : Value).ownBlock)) (.slice A2_0 Y.length c2_0) Y from Kd.S_below Fw.out hb); have n1_ := Aside0.mk (show Kd.R (Kd.int .i64) 3 w21_ w.heap.size (fun k_ => (w1_.heap.size ≤ k_ ∧ k_ < w2_.heap.size ∧ some k_ = ((.slice A2_1 Z.length c2_1) : Value).ownBlock)) (.slice A2_1 Z.length c2_1) Z from Kd.R_below Fv.out hb); have n2_ := Aside0.mk (show Kd.S (Kd.slice 3 (Kd.int .i64)) 24 w21_ w.heap.size (fun k_ => ((w3_.heap.size ≤ k_ ∧ k_ < w4_.heap.size ∧ some k_ ≠ ((.slice A4_1 Z.length c4_1) : Value).ownBlock) ∨ (w11_.heap.size ≤ k_ ∧ k_ < w12_.heap.size))) (.slice A4_0 Y.length c4_0) M from Kd.S_below Fg.out hb); have n3_ := Aside0.mk (show Kd.R (Kd.int .i64) 3 w21_ w.heap.size (fun k_ => (w3_.heap.size ≤ k_ ∧ k_ < w4_.heap.size ∧ some k_ = ((.slice A4_1 Z.length c4_1) : Value).ownBlock)) (.slice A4_1 Z.length c4_1) N from Kd.R_below Fh.out hb); have n4_ := Aside0.mk (show Kd.R (Kd.int .i64) 3 w21_ w.heap.size (fun k_ => (w15_.heap.size ≤ k_ ∧ k_ < w16_.heap.size ∧ some k_ = ((.slice A16_0 l1.length c16_0) : Value).ownBlock)) (.slice A16_0 l1.length c16_0) l1 from Kd.R_below Fx.out hb); have n5_ := Aside0.mk (show Kd.S (Kd.slice 3 (Kd.int .i64)) 24 w21_ w.heap.size (fun k_ => (w16_.heap.size ≤ k_ ∧ k_ < w17_.heap.size ∧ some k_ ≠ ((.slice A17_1 Z.length c17_1) : Value).ownBlock)) (.slice A17_0 Y.length c17_0) Y from Kd.S_below Fi.out hb); have n6_ := Aside0.mk (show Kd.R (Kd.int .i64) 3 w21_ w.heap.size (fun k_ => (w16_.heap.size ≤ k_ ∧ k_ < w17_.heap.size ∧ some k_ = ((.slice A17_1 Z.length c17_1) : Value).ownBlock)) (.slice A17_1 Z.length c17_1) Z from Kd.R_below Fj.out hb); have nb_ := Aside0.mk (below_step HB.out hb); (try clear Fw); (try clear Fv); (try clear Fg); (try clear Fh); (try clear Fx); (try clear Fi); (try clear Fj); (try clear HB); (try clear hb); (try clear hd); have Fw := n0_; have Fv := n1_; have Fg := n2_; have Fh := n3_; have Fx := n4_; have Fi := n5_; have Fj := n6_; have HB := nb_; clear nb_ n0_ n1_ n2_ n3_ n4_ n5_ n6_))
  go_ret
  exact ⟨rfl, HB.out⟩

end Go.Proofs.Ytgnimdlakocpjaa.Pure
