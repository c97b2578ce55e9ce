/- In the given program FnCalls answers true for every input, by what its functions compute; no condition. -/
import Derived.Test.YtjnepcpjhhebaaaQFnCallsx6
import Derived.Test.YtjnepcpjhhebaaaLib
import Derived.Test.YtjnepcpjhhebaaaCards
import Derived.Test.YtjnepcpjhhebaaaCards2
import Derived.Test.YtjnepcpjhhebaaaCalls
import Derived.Test.YtjnepcpjhhebaaaDraw
import Derived.Test.YtjnepcpjhhebaaaAsc
namespace Go.Proofs.Ytjnepcpjhhebaaa.Pure
open Go.RowKit Go.Proofs.Ytjnepcpjhhebaaa.QFnCalls Go.Proofs.YtjnepcpjhhebaaaW.PrintWords Go.Proofs.YtjnepcpjhhebaaaW.PrintLast Go.Proofs.YtjnepcpjhhebaaaW.PrintMore Go.Proofs.Ytjnepcpjhhebaaa.Lib
set_option linter.unusedVariables false
set_option linter.unusedSimpArgs false

theorem laws_big_eq (l : List Int) : laws_big.f l = some (decide ((l.length : Int) > 1048576)) := rfl

theorem spec_l1New_ev (l : List Int) (hl : l.length ≤ 140737488351232) : EvP (fun k => spec_l1New.f k l) (fun r => r.1 = l ∧ Cur l r.2.1) := by
  have key : ∀ (d i : Nat) (h : Int), i + d = l.length → EvP (fun k => spec_l1New.l0 k l h (i : Int)) (fun r => r.1 = l ∧ Cur l r.2.1) := by
    intro d
    induction d with
    | zero =>
      intro i h hd
      refine EvP.unfold (fun k => rfl) ?_
      simp only [spec_l1New.l0]
      exact EvP.neg (by omega) (EvP.now ⟨rfl, by unfold Cur; simp only; omega⟩)
    | succ d ih =>
      intro i h hd
      refine EvP.unfold (fun k => rfl) ?_
      simp only [spec_l1New.l0]
      refine EvP.pos (by omega) (EvP.ite (fun _ => EvP.pos (by omega) ?_) (fun _ => EvP.now ⟨rfl, by unfold Cur; simp only; omega⟩))
      rw [w64next i (by omega)]
      exact ih (i + 1) _ (by omega)
  simp only [spec_l1New.f]
  exact key l.length 0 _ (by omega)

theorem spec_l1Byte_ok (b : List Int) (i h : Int) (hc : Cur b i) : OkP (spec_l1Byte.f b i h) (fun r => 0 ≤ r.1 ∧ r.1 ≤ 255 ∧ Cur b r.2.1) := by
  obtain ⟨h0, h1, h2⟩ := hc
  unfold spec_l1Byte.f
  refine OkP.ite (fun h3 => OkP.pos h0 (OkP.now ?_)) (fun h3 => OkP.now ?_)
  · have := and_mask (wrap64 ((Go.bits .and .i64 (Go.bits .xor .i64 ((wrap64 ((wrap64 (h * 6364136223846793005)) + 1442695040888963407)) / 8589934592) ((wrap64 ((wrap64 (h * 6364136223846793005)) + 1442695040888963407)) / 140737488355328)) 255) + (wrap64 (rd b i)))) 255 (by omega)
    refine ⟨this.1, this.2, ?_⟩
    unfold Cur
    simp only
    rw [w64 _ (by omega)]
    omega
  · have := and_mask (Go.bits .xor .i64 ((wrap64 ((wrap64 (h * 6364136223846793005)) + 1442695040888963407)) / 8589934592) ((wrap64 ((wrap64 (h * 6364136223846793005)) + 1442695040888963407)) / 140737488355328)) 255 (by omega)
    exact ⟨this.1, this.2, h0, h1, h2⟩

theorem spec_l1Below_ok (b : List Int) (i h n : Int) (hc : Cur b i) (hn : n ≤ 1000000000) : OkP (spec_l1Below.f b i h n) (fun r => 0 ≤ r.1 ∧ (0 < n → r.1 < n) ∧ (n ≤ 0 → r.1 = 0) ∧ Cur b r.2.1) := by
  unfold spec_l1Below.f
  refine OkP.ite (fun h1 => OkP.now ⟨Int.le_refl 0, fun h => absurd h (by omega), fun _ => rfl, hc⟩) (fun h1 => OkP.ite (fun h2 => ?_) (fun h2 => ?_))
  · refine (spec_l1Byte_ok b i h hc).bind (fun r hr => OkP.neg (by omega) (OkP.now ?_))
    have := tmod_range (x := r.1) (n := n) hr.1 (by omega)
    exact ⟨this.1, fun _ => this.2, fun h => absurd h h1, hr.2.2⟩
  · refine (spec_l1Byte_ok b i h hc).bind (fun r hr => (spec_l1Byte_ok b _ _ hr.2.2).bind (fun s hs => (spec_l1Byte_ok b _ _ hs.2.2).bind (fun t ht => OkP.neg (by omega) (OkP.now ?_))))
    have e : wrap64 ((wrap64 ((wrap64 (r.1 * 65536)) + (wrap64 (s.1 * 256)))) + t.1) = r.1 * 65536 + s.1 * 256 + t.1 := by
      rw [w64 (r.1 * 65536) (by omega), w64 (s.1 * 256) (by omega), w64 (r.1 * 65536 + s.1 * 256) (by omega), w64 _ (by omega)]
    simp only
    rw [e]
    have := tmod_range (x := r.1 * 65536 + s.1 * 256 + t.1) (n := n) (by omega) (by omega)
    exact ⟨this.1, fun _ => this.2, fun h => absurd h h1, ht.2.2⟩

theorem spec_l1Once_ok (b : List Int) (i h n : Int) (hc : Cur b i) (hn : n ≤ 1000000000) : OkP (spec_l1Once.f b i h n) (fun r => Cur b r.2.1) := by
  unfold spec_l1Once.f
  exact (spec_l1Below_ok b i h n hc hn).bind (fun r hr => OkP.now hr.2.2.2)

theorem spec_l1Int_ok (b : List Int) (i h : Int) (l : List Int) (hc : Cur b i) (h0 : 0 < l.length) (hl : l.length ≤ 1000000000) : OkP (spec_l1Int.f b i h l) (fun r => r.1 ∈ l ∧ Cur b r.2.1) := by
  unfold spec_l1Int.f
  refine (spec_l1Below_ok b i h (l.length : Int) hc (by omega)).bind (fun r hr => OkP.pos hr.1 (OkP.pos (hr.2.1 (by omega)) (OkP.now ⟨?_, hr.2.2.2⟩)))
  obtain ⟨j, hj⟩ : ∃ j : Nat, r.1 = (j : Int) := ⟨r.1.toNat, by have := hr.1; omega⟩
  have hj2 : j < l.length := by have := hr.2.1 (by omega); omega
  simp only
  rw [hj, rd_at l j hj2]
  exact List.getElem_mem hj2

theorem spec_l1In_eq (n a b : Int) : spec_l1In.f n a b = some (inR n a b) := by
  unfold spec_l1In.f inR
  by_cases h : a ≤ n
  · rw [if_pos (by omega)]; simp [h]
  · rw [if_neg (by omega)]; simp [h]

theorem spec_CallsEnd_ev (p : Int) (l : List Int) (hl : l.length ≤ 1048576000) (hp : -9223372036854775808 ≤ p ∧ p ≤ 9223372036854775807) : Ev (fun k => spec_CallsEnd.f k p l) (callsEnd p l) := by
  have fin : ∀ n : Nat, n ≤ l.length → ∀ (r : Option Bool), r = (if (n : Int) = (l.length : Int) then (if p ≥ 1 then (some (decide ((n : Int) ≥ p))) else (some false)) else (if (n : Int) ≥ (wrap64 (p - 1)) then (some (decide (p ≥ 1))) else (some false))) → r = some (callsFin p l n) := by
    intro n hn r hr
    rw [hr]
    unfold callsFin
    by_cases h1 : 1 ≤ p
    · rw [w64 (p - 1) (by omega)]
      by_cases h2 : n = l.length
      · rw [if_pos (by omega), if_pos h1, if_pos h2]; simp [h1]
      · rw [if_neg (by omega), if_neg h2]
        by_cases h3 : (n : Int) ≥ p - 1
        · rw [if_pos h3]; simp [h1, h3]
        · rw [if_neg h3]; simp [h1, h3]
    · by_cases h2 : n = l.length
      · rw [if_pos (by omega), if_neg h1]; simp [h1]
      · rw [if_neg (by omega)]
        split <;> simp [h1]
  have hrl : l.reverse.length = l.length := by simp
  have h := ev_loop (fun k (_ : Unit) i => spec_CallsEnd.l0 k p l i) l.reverse (fun _ r => callsFin p l (l.length - r.length + passF r)) (fun _ _ => True) ?_ ?_ () 0 (by omega) trivial
  · simp only [spec_CallsEnd.f]
    refine ev_done h ?_
    simp [callsEnd]
  · rintro _ _
    refine ev_unfold (fun k => rfl) ?_
    simp only [spec_CallsEnd.l0, hrl]
    refine ev_neg (by omega) ?_
    refine Ev.congr (fun n => ?_) (Ev.now _)
    exact fin _ (by simp [passF]) _ (by simp [passF])
  · rintro _ i hi _ ih
    refine ev_unfold (fun k => rfl) ?_
    simp only [spec_CallsEnd.l0]
    rw [w64 ((l.length : Int) - 1) (by omega), w64 ((l.length : Int) - 1 - (i : Int)) (by omega), rd_rev l i hi, w64next i (by omega)]
    refine ev_pos (by omega) (ev_pos (by omega) (ev_pos (by omega) ?_))
    refine ev_ite (fun h => ?_) (fun h => ?_)
    · refine ev_done (ih () trivial) ?_
      congr 1
      unfold passF
      rw [if_pos h]
      simp only [List.length_drop, List.length_cons, hrl]
      cases hh : l.reverse.drop (i + 1) <;> simp [passF] <;> omega
    · refine Ev.congr (fun n => fin i (by omega) _ rfl) (ev_ret ?_)
      congr 1
      unfold passF
      rw [if_neg h]
      simp only [List.length_drop, List.length_cons, hrl]
      omega

theorem spec_Max_eq (a b : Int) : spec_Max.f a b = some (max a b) := by
  unfold spec_Max.f
  split <;> (congr 1; omega)

theorem spec_HighBid_ev (l : List Int) (hl : l.length ≤ 1048576000) : Ev (fun k => spec_HighBid.f k l) (l.foldl max 0) := by
  simp only [spec_HighBid.f]
  refine ev_loop (fun k (s : Int) i => spec_HighBid.l0 k l s i) l (fun s r => r.foldl max s) (fun _ _ => True) ?_ ?_ 0 0 (by omega) trivial
  · rintro s _
    refine ev_unfold (fun k => rfl) ?_
    simp only [spec_HighBid.l0]
    exact ev_neg (by omega) (ev_ret rfl)
  · rintro s i hi _ ih
    refine ev_unfold (fun k => rfl) ?_
    simp only [spec_HighBid.l0]
    refine ev_pos (by omega) (ev_pos (by omega) (ev_eq (spec_Max_eq _ _) ?_))
    rw [w64next i (by omega), rd_at l i hi]
    exact ih _ trivial

theorem spec_IsCalls_ev (p : Int) (l : List Int) (hl : l.length ≤ 1048576000) (hp : -9223372036854775808 ≤ p ∧ p ≤ 9223372036854775807) : Ev (fun k => spec_IsCalls.f k p l) (isCalls p l) := by
  simp only [spec_IsCalls.f]
  refine ev_done (ev_loopN (fun k (_ : Unit) i => spec_IsCalls.l0 k p l i) l.length (fun _ i => inR p 2 4 && ((l.drop i).all (fun x => inR x 0 35) && callsF p (l.take i) (l.drop i))) (fun _ _ => True) ?_ ?_ () 0 (by omega) trivial) ?_
  · rintro s _
    refine ev_unfold (fun k => rfl) ?_
    simp only [spec_IsCalls.l0, spec_l1In_eq, Option.bind_some]
    refine ev_neg (by omega) (ev_ret ?_)
    rw [drop_end]; simp [callsF]
  · rintro s i hi _ ih
    have ht : (l.take (i : Int).toNat).length ≤ 1048576000 := by simp; omega
    refine ev_unfold (fun k => rfl) ?_
    simp only [spec_IsCalls.l0, spec_l1In_eq, Option.bind_some]
    refine ev_pos (by omega) (ev_pos (by omega) ?_)
    rw [w64next i (by omega), rd_at l i hi, drop_at l i hi]
    refine ev_ite (fun h => ?_) (fun h => ?_)
    · have fin : ∀ g : Nat → Option Bool, (callsEnd p (l.take i) = false → (decide (l[i] > 0) && decide (l[i] ≤ highBid (l.take i))) = false → ∀ r, Ev (fun k => spec_IsCalls.l0 k p l ((i + 1 : Nat) : Int)) r → Ev g r) → (callsEnd p (l.take i) = true ∨ (decide (l[i] > 0) && decide (l[i] ≤ highBid (l.take i))) = true → Ev g false) → Ev g (inR p 2 4 && (((l[i] :: l.drop (i + 1)).all fun x => inR x 0 35) && callsF p (l.take i) (l[i] :: l.drop (i + 1)))) := by
        intro g h1 h2
        rw [List.all_cons, h, Bool.true_and]
        unfold callsF
        by_cases hc : callsEnd p (l.take i) = true ∨ (decide (l[i] > 0) && decide (l[i] ≤ highBid (l.take i))) = true
        · refine ev_done (h2 hc) ?_
          rcases hc with hc | hc <;> simp [hc]
        · have hc1 : callsEnd p (l.take i) = false := by cases hh : callsEnd p (l.take i) <;> simp_all
          have hc2 : (decide (l[i] > 0) && decide (l[i] ≤ highBid (l.take i))) = false := by cases hh : (decide (l[i] > 0) && decide (l[i] ≤ highBid (l.take i))) <;> simp_all
          refine h1 hc1 hc2 _ (ev_done (ih () trivial) ?_)
          rw [hc1, hc2, take_at l i hi]; simp
      rw [Int.toNat_natCast] at ht ⊢
      refine fin _ (fun hc1 hc2 r hr => ?_) (fun hc => ?_)
      · refine ev_ite (fun h3 => ?_) (fun h3 => ?_)
        · refine ev_pos (by omega) (Ev.bind (spec_HighBid_ev _ ht) (ev_neg ?_ (Ev.bind (spec_CallsEnd_ev p _ ht hp) (ev_neg (by simp [hc1]) hr))))
          intro h4
          rw [show decide (l[i] > 0) = true from decide_eq_true h3, show decide (l[i] ≤ highBid (l.take i)) = true from decide_eq_true h4] at hc2
          cases hc2
        · exact ev_pos (by omega) (Ev.bind (spec_CallsEnd_ev p _ ht hp) (ev_neg (by simp [hc1]) hr))
      · refine ev_ite (fun h3 => ?_) (fun h3 => ?_)
        · refine ev_pos (by omega) (Ev.bind (spec_HighBid_ev _ ht) (ev_ite (fun _ => Ev.now _) (fun h4 => Ev.bind (spec_CallsEnd_ev p _ ht hp) (ev_pos ?_ (Ev.now _)))))
          rcases hc with hc | hc
          · exact hc
          · simp only [Bool.and_eq_true, decide_eq_true_eq] at hc
            exact absurd hc.2 h4
        · refine ev_pos (by omega) (Ev.bind (spec_CallsEnd_ev p _ ht hp) (ev_pos ?_ (Ev.now _)))
          rcases hc with hc | hc
          · exact hc
          · simp only [Bool.and_eq_true, decide_eq_true_eq] at hc
            exact absurd hc.1 h3
    · refine ev_ret ?_
      rw [Bool.not_eq_true] at h
      rw [List.all_cons, h]; simp
  · simp [isCalls]

theorem spec_LegalCalls_up : ∀ (d : Nat) (s : List Int) (x : Int), (36 - x).toNat = d → 0 ≤ x → s.length + d ≤ 1000 → Ev (fun k => spec_LegalCalls.l0 k s x) (s ++ upF x) := by
  intro d
  induction d with
  | zero =>
    intro s x hd hx hs
    refine ev_unfold (fun k => rfl) ?_
    simp only [spec_LegalCalls.l0]
    refine ev_neg (by omega) (ev_ret ?_)
    rw [upF_end x (by omega), List.append_nil]
  | succ d ih =>
    intro s x hd hx hs
    refine ev_unfold (fun k => rfl) ?_
    simp only [spec_LegalCalls.l0]
    rw [w64 (x + 1) (by omega)]
    refine ev_pos (by omega) (ev_pos (by omega) (ev_done (ih _ _ (by omega) (by omega) (by simp; omega)) ?_))
    rw [upF_step x (by omega)]; simp
theorem spec_LegalCalls_ev (p : Int) (l : List Int) (hl : l.length ≤ 1048576000) (hp : -9223372036854775808 ≤ p ∧ p ≤ 9223372036854775807) : Ev (fun k => spec_LegalCalls.f k p l) (legalCalls p l) := by
  have j0 : ∀ b, (b = false → highBid l ≤ 35) → Ev (fun k => spec_LegalCalls.j0 k l [] b) (if b = true then [] else 0 :: upF (highBid l + 1)) := by
    intro b hb
    have h0 := highBid_nonneg l
    refine ev_unfold (fun k => rfl) ?_
    simp only [spec_LegalCalls.j0]
    refine ev_ite (fun h => ?_) (fun h => ?_)
    · rw [if_pos h]; exact Ev.now _
    · rw [if_neg h]
      have h35 := hb (by simpa using h)
      refine ev_pos (by simp) (Ev.bind (spec_HighBid_ev l hl) ?_)
      show Ev (fun k => spec_LegalCalls.l0 k ([] ++ [0]) (wrap64 (highBid l + 1))) _
      rw [w64 (highBid l + 1) (by omega)]
      exact ev_done (spec_LegalCalls_up _ _ _ rfl (by omega) (by simp; omega)) (by simp)
  simp only [spec_LegalCalls.f, Option.bind_some]
  unfold legalCalls
  refine Ev.bind (spec_IsCalls_ev p l hl hp) (ev_ite (fun h2 => ?_) (fun h2 => ev_done (j0 _ (fun h => by cases h)) ?_))
  · rw [if_pos h2]
    exact Ev.bind (spec_CallsEnd_ev p l hl hp) (j0 _ (fun _ => highBid_le h2))
  · rw [if_neg h2]; simp

theorem spec_l13Any_ev (b : List Int) (i h : Int) (hc : Cur b i) : EvP (fun k => spec_l13Any.f k b i h) (fun r => (-1 ≤ r.1 ∧ r.1 ≤ 7) ∧ r.2.1.length ≤ 20 ∧ Cur b r.2.2.1) := by
  have j1 : ∀ (p : Int) (w : List Int) (i h : Int), 2 ≤ p → p ≤ 5 → w.length ≤ 10 → Cur b i → EvP (fun k => spec_l13Any.j1 k p w b i h) (fun r => (-1 ≤ r.1 ∧ r.1 ≤ 7) ∧ r.2.1.length ≤ 20 ∧ Cur b r.2.2.1) := by
    intro p w i h hp hp2 hw hc
    refine EvP.unfold (fun k => rfl) ?_
    simp only [spec_l13Any.j1]
    refine EvP.bind (spec_l1Below_ok b i h 10 hc (by omega)).ev (fun r hr => EvP.ite (fun _ => ?_) (fun _ => EvP.ite (fun _ => ?_) (fun _ => EvP.now ⟨by simp only; omega, by simp only; omega, hr.2.2.2⟩)))
    · refine EvP.bind (spec_l1Int_ok b _ _ [-1, 1, 35, 36] hr.2.2.2 (by simp) (by simp)).ev (fun s hs => EvP.pos (by omega) (EvP.now ⟨by simp only; omega, by simp; omega, hs.2⟩))
    · refine EvP.bind (spec_l1Int_ok b _ _ [1, 4, 5, 0] hr.2.2.2 (by simp) (by simp)).ev (fun s hs => EvP.now ⟨?_, by simp only; omega, hs.2⟩)
      have := hs.1
      simp only [List.mem_cons, List.not_mem_nil, or_false] at this
      simp only
      omega
  have key : ∀ (d : Nat) (p : Int) (w : List Int) (j i h : Int), 2 ≤ p → p ≤ 5 → j = (d : Int) → w.length + d ≤ 9 → Cur b i → EvP (fun k => spec_l13Any.l0 k p w j b i h) (fun r => (-1 ≤ r.1 ∧ r.1 ≤ 7) ∧ r.2.1.length ≤ 20 ∧ Cur b r.2.2.1) := by
    intro d
    induction d with
    | zero =>
      intro p w j i h hp hp2 hd hw hc
      refine EvP.unfold (fun k => rfl) ?_
      simp only [spec_l13Any.l0]
      exact EvP.neg (by omega) (j1 p w i h hp hp2 (by omega) hc)
    | succ d ih =>
      intro p w j i h hp hp2 hd hw hc
      refine EvP.unfold (fun k => rfl) ?_
      simp only [spec_l13Any.l0]
      rw [w64 (j - 1) (by omega)]
      refine EvP.pos (by omega) (EvP.bind (EvP.of (P := fun a => a = legalCalls p w) (spec_LegalCalls_ev p w (by omega) (by omega)) rfl) (fun a ha => EvP.ite (fun _ => j1 p w i h hp hp2 (by omega) hc) (fun h0 => ?_)))
      refine EvP.bind (spec_l1Once_ok b i h 2 hc (by omega)).ev (fun r hr => EvP.ite (fun _ => ?_) (fun _ => EvP.pos (by omega) (EvP.pos (by omega) (ih p _ _ _ _ hp hp2 (by omega) (by simp; omega) hr))))
      obtain ⟨m, hm, hm2, hm3, hm4⟩ : ∃ m, spec_Min.f (a.length : Int) 5 = some m ∧ 0 < m ∧ m ≤ (a.length : Int) ∧ m ≤ 5 := by
        unfold spec_Min.f
        split
        · exact ⟨_, rfl, by omega, by omega, by omega⟩
        · exact ⟨_, rfl, by omega, by omega, by omega⟩
      rw [hm]
      simp only [Option.bind_some]
      refine EvP.bind (spec_l1Below_ok b _ _ m hr (by omega)).ev (fun s hs => EvP.pos hs.1 (EvP.pos (by have := hs.2.1 hm2; omega) (EvP.pos (by omega) (ih p _ _ _ _ hp hp2 (by omega) (by simp; omega) hs.2.2.2))))
  simp only [spec_l13Any.f]
  refine EvP.bind (spec_l1Below_ok b i h 3 hc (by omega)).ev (fun r hr => EvP.bind (spec_l1Below_ok b _ _ 10 hr.2.2.2 (by omega)).ev (fun s hs => ?_))
  have h1 := hr.2.1 (by omega)
  have h2 := hs.2.1 (by omega)
  rw [w64 (2 + r.1) (by omega)]
  exact key s.1.toNat _ _ _ _ _ (by omega) (by omega) (by omega) (by simp; omega) hs.2.2.2

theorem spec_DrawIsCalls_ev (l : List Int) (hl : l.length ≤ 140737488351232) : EvP (fun k => spec_DrawIsCalls.f k l) (fun r => (-1 ≤ r.1 ∧ r.1 ≤ 7) ∧ r.2.length ≤ 20) := by
  simp only [spec_DrawIsCalls.f]
  refine EvP.bind (spec_l1New_ev l hl) (fun c hc => ?_)
  have hc2 := hc.2
  rw [← hc.1] at hc2
  exact EvP.bind (spec_l13Any_ev c.1 _ _ hc2) (fun r hr => EvP.now ⟨hr.1, hr.2.1⟩)

theorem spec_DrawLegalCalls_ev (l : List Int) (hl : l.length ≤ 140737488351232) : EvP (fun k => spec_DrawLegalCalls.f k l) (fun r => (-1 ≤ r.1 ∧ r.1 ≤ 7) ∧ r.2.length ≤ 20) := by
  simp only [spec_DrawLegalCalls.f]
  exact EvP.bind (spec_DrawIsCalls_ev l hl) (fun r hr => EvP.now hr)

theorem impl_CallsEnd_ev (p : Int) (l : List Int) (hl : l.length ≤ 1048576000) (hp : -9223372036854775808 ≤ p ∧ p ≤ 9223372036854775807) : Ev (fun k => impl_CallsEnd.f k p l) (callsEnd p l) := by
  have fin : ∀ n : Nat, n ≤ l.length → Ev (fun k => impl_CallsEnd.j1 k p l (n : Int)) (callsFin p l n) := by
    intro n hn
    refine ev_unfold (fun k => rfl) ?_
    simp only [impl_CallsEnd.j1]
    unfold callsFin
    refine ev_ite (fun h => ev_ret ?_) (fun h => ?_)
    · simp; omega
    · rw [w64 (p - 1) (by omega)]
      refine ev_ite (fun h2 => ev_ret ?_) (fun h2 => ev_ret ?_)
      · rw [if_pos (by omega)]; simp; omega
      · rw [if_neg (by omega)]; simp; omega
  have hrl : l.reverse.length = l.length := by simp
  have h := ev_loop (fun k (_ : Unit) i => impl_CallsEnd.l0 k p l i ((l.length : Int) - 1 - i)) l.reverse (fun _ r => callsFin p l (l.length - r.length + passF r)) (fun _ _ => True) ?_ ?_ () 0 (by omega) trivial
  · simp only [impl_CallsEnd.f]
    rw [w64 ((l.length : Int) - 1) (by omega)]
    refine ev_done (Ev.congr (fun k => ?_) h) ?_
    · simp
    · simp [callsEnd]
  · rintro _ _
    refine ev_unfold (fun k => rfl) ?_
    simp only [impl_CallsEnd.l0, hrl]
    refine ev_neg (by omega) ?_
    refine ev_done (fin _ (by omega)) ?_
    simp [passF]
  · rintro _ i hi _ ih
    refine ev_unfold (fun k => rfl) ?_
    simp only [impl_CallsEnd.l0]
    rw [rd_rev l i hi, w64next i (by omega), w64 ((l.length : Int) - 1 - (i : Int) - 1) (by omega)]
    refine ev_pos (by omega) (ev_pos (by omega) (ev_pos (by omega) ?_))
    refine ev_ite (fun h => ?_) (fun h => ?_)
    · refine ev_done (Ev.congr (fun k => ?_) (ih () trivial)) ?_
      · congr 1; omega
      · congr 1
        unfold passF
        rw [if_pos h]
        simp only [List.length_drop, List.length_cons, hrl]
        cases hh : l.reverse.drop (i + 1) <;> simp [passF] <;> omega
    · refine ev_done (fin i (by omega)) ?_
      congr 1
      unfold passF
      rw [if_neg h]
      simp only [List.length_drop, List.length_cons, hrl]
      omega

theorem impl_HighBid_ev (l : List Int) (hl : l.length ≤ 1048576000) : Ev (fun k => impl_HighBid.f k l) (l.foldl max 0) := by
  simp only [impl_HighBid.f]
  refine ev_loop (fun k (s : Int) i => impl_HighBid.l0 k s l (l.length : Int) i) l (fun s r => r.foldl max s) (fun _ _ => True) ?_ ?_ 0 0 (by omega) trivial
  · rintro s _
    refine ev_unfold (fun k => rfl) ?_
    simp only [impl_HighBid.l0]
    exact ev_neg (by omega) (ev_ret rfl)
  · rintro s i hi _ ih
    refine ev_unfold (fun k => rfl) ?_
    simp only [impl_HighBid.l0]
    refine ev_pos (by omega) (ev_pos (by omega) (ev_pos (by omega) ?_))
    rw [w64next i (by omega), rd_at l i hi, mx_max]
    exact ih _ trivial

theorem impl_InRange_eq (n a b : Int) : impl_InRange.f n a b = some (inR n a b) := by
  unfold impl_InRange.f inR
  by_cases h : a ≤ n
  · rw [if_pos (by omega)]; simp [h]
  · rw [if_neg (by omega)]; simp [h]

theorem impl_allIn_ev (l : List Int) (a b : Int) (hl : l.length ≤ 1048576000) : Ev (fun k => impl_allIn.f k l a b) (l.all fun x => inR x a b) := by
  simp only [impl_allIn.f]
  refine ev_loop (fun k (_ : Unit) i => impl_allIn.l0 k a b l (l.length : Int) i) l (fun _ r => r.all fun x => inR x a b) (fun _ _ => True) ?_ ?_ () 0 (by omega) trivial
  · rintro s _
    refine ev_unfold (fun k => rfl) ?_
    simp only [impl_allIn.l0]
    exact ev_neg (by omega) (ev_ret rfl)
  · rintro s i hi _ ih
    refine ev_unfold (fun k => rfl) ?_
    simp only [impl_allIn.l0]
    refine ev_pos (by omega) (ev_pos (by omega) (ev_pos (by omega) (ev_eq (impl_InRange_eq _ _ _) ?_)))
    rw [w64next i (by omega), rd_at l i hi, List.all_cons]
    refine ev_ite (fun h => ?_) (fun h => ?_)
    · rw [h, Bool.true_and]; exact ih () trivial
    · rw [Bool.not_eq_true] at h
      rw [h, Bool.false_and]; exact Ev.now _

theorem impl_IsCalls_ev (p : Int) (l : List Int) (hl : l.length ≤ 1048576000) (hp : -9223372036854775808 ≤ p ∧ p ≤ 9223372036854775807) : Ev (fun k => impl_IsCalls.f k p l) (isCalls p l) := by
  have l0 : Ev (fun k => impl_IsCalls.l0 k p l l (l.length : Int) 0) (callsF p [] l) := by
    refine ev_loopN (fun k (_ : Unit) i => impl_IsCalls.l0 k p l l (l.length : Int) i) l.length (fun _ i => callsF p (l.take i) (l.drop i)) (fun _ _ => True) ?_ ?_ () 0 (by omega) trivial
    · rintro s _
      refine ev_unfold (fun k => rfl) ?_
      simp only [impl_IsCalls.l0]
      refine ev_neg (by omega) (ev_ret ?_)
      rw [drop_end]; simp [callsF]
    · rintro s i hi _ ih
      have ht : (l.take (i : Int).toNat).length ≤ 1048576000 := by simp; omega
      refine ev_unfold (fun k => rfl) ?_
      simp only [impl_IsCalls.l0]
      refine ev_pos (by omega) (ev_pos (by omega) (ev_pos (by omega) ?_))
      rw [w64next i (by omega), rd_at l i hi, drop_at l i hi]
      rw [Int.toNat_natCast] at ht ⊢
      unfold callsF
      refine ev_ite (fun h3 => ?_) (fun h3 => ?_)
      · refine ev_pos (by omega) (Ev.bind (impl_HighBid_ev _ ht) (ev_ite (fun h4 => ev_ret ?_) (fun h4 => Ev.bind (impl_CallsEnd_ev p _ ht hp) (ev_ite (fun h5 => ev_ret ?_) (fun h5 => ev_done (ih () trivial) ?_)))))
        · rw [show decide (l[i] > 0) = true from decide_eq_true h3, show decide (l[i] ≤ highBid (l.take i)) = true from decide_eq_true h4]; simp
        · rw [h5]; simp
        · rw [Bool.not_eq_true] at h5
          rw [h5, take_at l i hi, show decide (l[i] ≤ highBid (l.take i)) = false from decide_eq_false h4]; simp
      · refine ev_pos (by omega) (Ev.bind (impl_CallsEnd_ev p _ ht hp) (ev_ite (fun h5 => ev_ret ?_) (fun h5 => ev_done (ih () trivial) ?_)))
        · rw [h5]; simp
        · rw [Bool.not_eq_true] at h5
          rw [h5, take_at l i hi, show decide (l[i] > 0) = false from decide_eq_false h3]; simp
  have j0 : ∀ b, Ev (fun k => impl_IsCalls.j0 k p l b) (!b && callsF p [] l) := by
    intro b
    refine ev_unfold (fun k => rfl) ?_
    simp only [impl_IsCalls.j0]
    refine ev_ite (fun h => ?_) (fun h => ?_)
    · rw [h]; exact Ev.now _
    · rw [Bool.not_eq_true] at h; rw [h]; exact ev_done l0 (by simp)
  simp only [impl_IsCalls.f, impl_InRange_eq, Option.bind_some]
  unfold isCalls
  refine ev_ite (fun h => ?_) (fun h => ?_)
  · refine Ev.bind (impl_allIn_ev l _ _ hl) (ev_done (j0 _) ?_)
    simp [h]
  · refine ev_done (j0 _) ?_
    simp [h]

theorem impl_LegalCalls_up : ∀ (d : Nat) (s : List Int) (x : Int), (36 - x).toNat = d → 0 ≤ x → s.length + d ≤ 1000 → Ev (fun k => impl_LegalCalls.l0 k s x) (s ++ upF x) := by
  intro d
  induction d with
  | zero =>
    intro s x hd hx hs
    refine ev_unfold (fun k => rfl) ?_
    simp only [impl_LegalCalls.l0]
    refine ev_neg (by omega) (ev_ret ?_)
    rw [upF_end x (by omega), List.append_nil]
  | succ d ih =>
    intro s x hd hx hs
    refine ev_unfold (fun k => rfl) ?_
    simp only [impl_LegalCalls.l0]
    rw [w64 (x + 1) (by omega)]
    refine ev_pos (by omega) (ev_pos (by omega) (ev_done (ih _ _ (by omega) (by omega) (by simp; omega)) ?_))
    rw [upF_step x (by omega)]; simp
theorem impl_LegalCalls_ev (p : Int) (l : List Int) (hl : l.length ≤ 1048576000) (hp : -9223372036854775808 ≤ p ∧ p ≤ 9223372036854775807) : Ev (fun k => impl_LegalCalls.f k p l) (legalCalls p l) := by
  have j0 : ∀ b, (b = false → highBid l ≤ 35) → Ev (fun k => impl_LegalCalls.j0 k l b) (if b = true then [] else 0 :: upF (highBid l + 1)) := by
    intro b hb
    have h0 := highBid_nonneg l
    refine ev_unfold (fun k => rfl) ?_
    simp only [impl_LegalCalls.j0]
    refine ev_ite (fun h => ?_) (fun h => ?_)
    · rw [if_pos h]; exact Ev.now _
    · rw [if_neg h]
      have h35 := hb (by simpa using h)
      refine Ev.bind (impl_HighBid_ev l hl) ?_
      show Ev (fun k => impl_LegalCalls.l0 k [0] (wrap64 (highBid l + 1))) _
      rw [w64 (highBid l + 1) (by omega)]
      exact ev_done (impl_LegalCalls_up _ _ _ rfl (by omega) (by simp; omega)) (by simp)
  simp only [impl_LegalCalls.f]
  unfold legalCalls
  refine Ev.bind (impl_IsCalls_ev p l hl hp) (ev_ite (fun h2 => ?_) (fun h2 => ev_done (j0 _ (fun h => by cases h)) ?_))
  · rw [if_pos h2]
    exact Ev.bind (impl_CallsEnd_ev p l hl hp) (j0 _ (fun _ => highBid_le h2))
  · rw [if_neg h2]; simp

theorem laws_ascends_ev (l : List Int) (hl : l.length ≤ 1048576000) : Ev (fun k => laws_ascends.f k l) (ascB l) := by
  have key : ∀ (d i : Nat), 1 ≤ i → l.length ≤ i + d → Ev (fun k => laws_ascends.l0 k l (i : Int)) (ascFrom l i) := by
    intro d
    induction d with
    | zero =>
      intro i h1 hd
      refine ev_unfold (fun k => rfl) ?_
      simp only [laws_ascends.l0]
      refine ev_neg (by omega) (ev_ret ?_)
      exact (ascFrom_end (by omega)).symm
    | succ d ih =>
      intro i h1 hd
      refine ev_unfold (fun k => rfl) ?_
      simp only [laws_ascends.l0]
      refine ev_ite (fun h => ?_) (fun h => ev_ret (ascFrom_end (by omega)).symm)
      have hi : i < l.length := by omega
      have e : wrap64 ((i : Int) - 1) = ((i - 1 : Nat) : Int) := by rw [w64 _ (by omega)]; omega
      rw [e, w64next i (by omega), rd_at l i hi, rd_at l (i - 1) (by omega)]
      refine ev_pos (by omega) (ev_pos (by omega) (ev_pos (by omega) (ev_ite (fun h2 => ev_ret ?_) (fun h2 => ?_))))
      · rw [ascFrom_step hi (by omega)]
        rw [decide_eq_false (by omega)]; rfl
      · rw [ascFrom_step hi (by omega), decide_eq_true (by omega), Bool.true_and]
        exact ih (i + 1) (by omega) (by omega)
  simp only [laws_ascends.f]
  exact key l.length 1 (by omega) (by omega)

theorem impl_PlaceOf_ev (l : List Int) (c : Int) (hl : l.length ≤ 1048576000) : Ev (fun k => impl_PlaceOf.f k l c) (placeOf l c) := by
  simp only [impl_PlaceOf.f]
  refine ev_loopN (fun k (_ : Unit) i => impl_PlaceOf.l0 k c l (l.length : Int) i) l.length (fun _ i => placeF c i (l.drop i)) (fun _ _ => True) ?_ ?_ () 0 (by omega) trivial
  · rintro s _
    refine ev_unfold (fun k => rfl) ?_
    simp only [impl_PlaceOf.l0]
    refine ev_neg (by omega) (ev_ret ?_)
    rw [drop_end]; rfl
  · rintro s i hi _ ih
    refine ev_unfold (fun k => rfl) ?_
    simp only [impl_PlaceOf.l0]
    refine ev_pos (by omega) (ev_pos (by omega) (ev_pos (by omega) ?_))
    rw [w64next i (by omega), rd_at l i hi, drop_at l i hi]
    unfold placeF
    refine ev_ite (fun h => ev_ret ?_) (fun h => ev_done (ih () trivial) ?_)
    · rw [if_pos h]
    · rw [if_neg h]; congr 1

theorem impl_Declarer_ev (p : Int) (l : List Int) (hl : l.length ≤ 1048576000) (hp : -9223372036854775808 ≤ p ∧ p ≤ 9223372036854775807) : Ev (fun k => impl_Declarer.f k p l) (declarer p l) := by
  simp only [impl_Declarer.f]
  unfold declarer
  refine Ev.bind (impl_HighBid_ev l hl) (ev_ite (fun h => ev_ret ?_) (fun h => ?_))
  · rw [if_pos (show highBid l = 0 from h)]
  · rw [if_neg (show ¬ highBid l = 0 from h)]
    refine Ev.bind (impl_IsCalls_ev p l hl hp) (ev_ite (fun h2 => ?_) (fun h2 => ev_ret ?_))
    · rw [if_pos h2]
      refine Ev.bind (impl_CallsEnd_ev p l hl hp) (ev_ite (fun h3 => ?_) (fun h3 => ev_ret ?_))
      · rw [if_pos h3]
        have hp2 : ¬ p = 0 := by rintro rfl; simp [isCalls, inR] at h2
        exact Ev.bind (impl_PlaceOf_ev l _ hl) (ev_neg hp2 (ev_ret rfl))
      · rw [if_neg h3]
    · rw [if_neg h2]

theorem spec_DrawHighBid_ev (l : List Int) (hl : l.length ≤ 140737488351232) : EvP (fun k => spec_DrawHighBid.f k l) (fun r => r.length ≤ 20) := by
  simp only [spec_DrawHighBid.f]
  exact EvP.bind (spec_DrawIsCalls_ev l hl) (fun r hr => EvP.now hr.2)

theorem callsF_snoc (p : Int) (x : Int) : ∀ (l pre : List Int), callsF p pre (l ++ [x]) = (callsF p pre l && !((decide (x > 0) && decide (x ≤ highBid (pre ++ l))) || callsEnd p (pre ++ l)))
  | [], pre => by simp [callsF]
  | y :: l, pre => by
    rw [List.cons_append]
    unfold callsF
    rw [callsF_snoc p x l (pre ++ [y]), List.append_assoc, List.singleton_append, Bool.and_assoc]
theorem isCalls_snoc {p : Int} {l : List Int} {x : Int} (h : isCalls p l = true) (he : callsEnd p l = false) (h0 : 0 ≤ x) (h1 : x ≤ 35) (hx : x = 0 ∨ highBid l < x) : isCalls p (l ++ [x]) = true := by
  simp only [isCalls, Bool.and_eq_true] at h ⊢
  obtain ⟨h2, h3, h4⟩ := h
  refine ⟨h2, ?_, ?_⟩
  · rw [List.all_append, h3]
    simp [inR, h0, h1]
  · rw [callsF_snoc, h4, List.nil_append, he, Bool.or_false, Bool.true_and]
    by_cases hz : x > 0
    · have : ¬ x ≤ highBid l := by omega
      simp [hz, this]
    · simp [hz]
theorem upF_asc (x : Int) : (upF x).Pairwise (· < ·) := by
  unfold upF
  rw [List.pairwise_map]
  exact (List.pairwise_lt_range).imp (fun h => by omega)
theorem mem_upF {x y : Int} (h : y ∈ upF x) : x ≤ y ∧ y ≤ 35 := by
  unfold upF at h
  obtain ⟨j, hj, rfl⟩ := List.mem_map.1 h
  have := List.mem_range.1 hj
  omega
theorem legal_asc (p : Int) (l : List Int) : ascB (legalCalls p l) = true := by
  rw [ascB_iff]
  unfold legalCalls
  have hb := highBid_nonneg l
  split
  · split
    · exact List.Pairwise.nil
    · rw [List.pairwise_cons]
      exact ⟨fun y hy => by have := mem_upF hy; omega, upF_asc _⟩
  · exact List.Pairwise.nil
theorem legal_some (p : Int) (l : List Int) : decide (((legalCalls p l).length : Int) > 0) = (isCalls p l && !callsEnd p l) := by
  unfold legalCalls
  cases h1 : isCalls p l <;> cases h2 : callsEnd p l <;> simp
theorem legal_next {p : Int} {l : List Int} {x : Int} (h : x ∈ legalCalls p l) : isCalls p (l ++ [x]) = true := by
  have hb := highBid_nonneg l
  unfold legalCalls at h
  by_cases h1 : isCalls p l = true
  · rw [if_pos h1] at h
    by_cases h2 : callsEnd p l = true
    · rw [if_pos h2] at h; cases h
    · rw [if_neg h2] at h
      rw [Bool.not_eq_true] at h2
      rcases List.mem_cons.1 h with rfl | h
      · exact isCalls_snoc h1 h2 (by omega) (by omega) (.inl rfl)
      · have := mem_upF h
        exact isCalls_snoc h1 h2 (by omega) (by omega) (.inr (by omega))
  · rw [if_neg h1] at h; cases h
/-- A bid is above all before it. -/
theorem calls_above {p : Int} : ∀ (l pre : List Int), callsF p pre l = true → ∀ j (hj : j < l.length), l[j] > 0 → highBid (pre ++ l.take j) < l[j]
  | [], _, _, j, hj, _ => by simp at hj
  | x :: r, pre, h, j, hj, hp => by
    unfold callsF at h
    rw [Bool.and_eq_true] at h
    cases j with
    | zero =>
      simp only [List.getElem_cons_zero] at hp ⊢
      have h1 := h.1
      simp [hp] at h1
      simp only [List.take_zero, List.append_nil]
      omega
    | succ j =>
      have := calls_above r (pre ++ [x]) h.2 j (by simpa using hj) (by simpa using hp)
      simpa using this
theorem le_highBid {x : Int} : ∀ {l : List Int} (s : Int), x ∈ l → x ≤ l.foldl max s
  | y :: r, s, h => by
    rcases List.mem_cons.1 h with rfl | h
    · have := foldl_max_ge r (max s x); simp only [List.foldl_cons]; omega
    · exact le_highBid (l := r) (max s y) h
theorem placeF_at (c : Int) : ∀ (l : List Int) (i : Int), c ∈ l → ∃ j : Nat, ∃ hj : j < l.length, placeF c i l = i + (j : Int) ∧ l[j] = c
  | x :: r, i, h => by
    unfold placeF
    by_cases e : x = c
    · rw [if_pos e]; exact ⟨0, by simp, by simp, by simpa using e⟩
    · rw [if_neg e]
      obtain ⟨j, hj, h1, h2⟩ := placeF_at c r (i + 1) ((List.mem_cons.1 h).resolve_left (fun z => e z.symm))
      exact ⟨j + 1, by simp; omega, by rw [h1]; omega, by simpa using h2⟩
theorem high_mem (l : List Int) : ∀ s : Int, l.foldl max s = s ∨ l.foldl max s ∈ l := by
  induction l with
  | nil => intro s; exact .inl rfl
  | cons x r ih =>
    intro s
    rw [List.foldl_cons]
    rcases ih (max s x) with h | h
    · rw [h]
      rcases Int.le_total s x with h1 | h1
      · right; rw [Int.max_eq_right h1]; simp
      · left; exact Int.max_eq_left h1
    · right; exact List.mem_cons_of_mem _ h
theorem declarer_last {p : Int} {l : List Int} (h : declarer p l ≥ 0) : (2 ≤ p ∧ p ≤ 4) ∧ callsEnd p l = true ∧ ∃ j : Nat, ∃ hj : j < l.length, l[j] = highBid l ∧ declarer p l = Int.tmod (j : Int) p ∧ ∀ i (hi : i < l.length), l[i] = highBid l → i = j := by
  unfold declarer at h ⊢
  by_cases h0 : highBid l = 0
  · rw [if_pos h0] at h; omega
  rw [if_neg h0] at h ⊢
  by_cases h1 : isCalls p l = true
  · rw [if_pos h1] at h ⊢
    by_cases h2 : callsEnd p l = true
    · rw [if_pos h2] at h ⊢
      have hp : 2 ≤ p ∧ p ≤ 4 := by
        simp only [isCalls, Bool.and_eq_true, inR_iff] at h1; exact h1.1
      have hm : highBid l ∈ l := (high_mem l 0).resolve_left h0
      obtain ⟨j, hj, e1, e2⟩ := placeF_at (highBid l) l 0 hm
      refine ⟨hp, h2, j, hj, e2, by unfold placeOf; rw [e1]; simp, fun i hi e3 => ?_⟩
      have hc : callsF p [] l = true := by
        simp only [isCalls, Bool.and_eq_true] at h1; exact h1.2.2
      have hpos : 0 < highBid l := by have := highBid_nonneg l; omega
      have key : ∀ a b (ha : a < l.length) (hb : b < l.length), l[a] = highBid l → l[b] = highBid l → ¬ a < b := by
        intro a b ha hb ea eb hab
        have h3 := calls_above l [] hc b hb (by omega)
        have h4 : l[a] ∈ [] ++ l.take b := by
          rw [List.nil_append, List.mem_iff_getElem]
          exact ⟨a, by simp; omega, by rw [List.getElem_take]⟩
        have h5 : l[a] ≤ highBid ([] ++ l.take b) := le_highBid 0 h4
        omega
      have k1 := key i j hi hj e3 e2
      have k2 := key j i hj hi e2 e3
      omega
    · rw [if_neg h2] at h; omega
  · rw [if_neg h1] at h; omega
theorem FnCalls : laws_FnCalls.Pure := by
  intro b hb _ _
  refine Ev.rounds ?_
  simp only [laws_FnCalls.f, laws_big_eq, Option.bind_some]
  refine ev_ite (fun _ => Ev.now _) (fun h => ?_)
  simp only [decide_eq_true_eq] at h
  have hb2 : b.length ≤ 140737488351232 := by omega
  have fin : Ev (fun k => (spec_DrawHighBid.f k b).bind fun t => ((impl_HighBid.f k t).bind fun t2 => (some (decide (t2 ≥ 0))))) true := by
    refine EvP.use (spec_DrawHighBid_ev b hb2) (fun w hw => Ev.bind (impl_HighBid_ev w (by omega)) (ev_ret ?_))
    exact decide_eq_true (foldl_max_ge w 0)
  have j3 : Ev (fun k => laws_FnCalls.j3 k b false) true := by
    refine ev_unfold (fun k => rfl) ?_
    simp only [laws_FnCalls.j3]
    exact ev_neg (by simp) fin
  have l1 : ∀ (p : Int) (l : List Int), (-9223372036854775808 ≤ p ∧ p ≤ 9223372036854775807) → l.length ≤ 20 → declarer p l ≥ 0 → Ev (fun k => laws_FnCalls.l1 k b p l (declarer p l) (-1) 0) true := by
    intro p l hp hl hd
    obtain ⟨hp2, he, j, hj, e1, e2, e3⟩ := declarer_last hd
    refine ev_loopN (fun k (s : Int) i => laws_FnCalls.l1 k b p l (declarer p l) s i) l.length (fun _ _ => true) (fun s i => s = if j < i then (j : Int) else -1) ?_ ?_ (-1) 0 (by omega) (by simp)
    · rintro s hs
      rw [if_pos hj] at hs
      refine ev_unfold (fun k => rfl) ?_
      simp only [laws_FnCalls.l1]
      refine ev_neg (by omega) (ev_neg (by omega) (ev_neg (by omega) (ev_pos (by rw [hs, e2]) (Ev.bind (impl_CallsEnd_ev p l (by omega) hp) ?_))))
      rw [he]
      exact j3
    · rintro s i hi hs ih
      refine ev_unfold (fun k => rfl) ?_
      simp only [laws_FnCalls.l1]
      rw [w64next i (by omega), rd_at l i hi]
      refine ev_pos (by omega) (ev_pos (by omega) (Ev.bind (impl_HighBid_ev l (by omega)) (ev_ite (fun h3 => ih _ ?_) (fun h3 => ih _ ?_))))
      · have := e3 i hi h3
        rw [if_pos (by omega)]; omega
      · have : i ≠ j := fun z => by subst z; exact h3 e1
        by_cases h4 : j < i
        · rw [if_pos h4] at hs; rw [if_pos (by omega)]; exact hs
        · rw [if_neg h4] at hs; rw [if_neg (by omega)]; exact hs
  have l0 : ∀ (p : Int) (l : List Int), (-9223372036854775808 ≤ p ∧ p ≤ 9223372036854775807) → l.length ≤ 20 → Ev (fun k => laws_FnCalls.l0 k b p l (legalCalls p l) 0) true := by
    intro p l hp hl
    have hq := legalCalls_length p l
    refine ev_loopN (fun k (_ : Unit) i => laws_FnCalls.l0 k b p l (legalCalls p l) i) (legalCalls p l).length (fun _ _ => true) (fun _ _ => True) ?_ ?_ () 0 (by omega) trivial
    · rintro _ _
      refine ev_unfold (fun k => rfl) ?_
      simp only [laws_FnCalls.l0]
      refine ev_neg (by omega) (Ev.bind (impl_Declarer_ev p l (by omega) hp) (ev_ite (fun h3 => l1 p l hp hl h3) (fun _ => fin)))
    · rintro _ i hi _ ih
      refine ev_unfold (fun k => rfl) ?_
      simp only [laws_FnCalls.l0, Option.bind_some, List.nil_append]
      rw [w64next i (by omega), rd_at _ i hi]
      refine ev_pos (by omega) (ev_pos (by simp; omega) (ev_pos (by omega) (ev_pos (by simp; omega) (Ev.bind (impl_IsCalls_ev p _ (by simp; omega) hp) ?_))))
      rw [legal_next (List.getElem_mem hi)]
      exact ev_pos rfl (ih () trivial)
  have j0 : ∀ (p : Int) (l : List Int), (-9223372036854775808 ≤ p ∧ p ≤ 9223372036854775807) → l.length ≤ 20 → Ev (fun k => laws_FnCalls.j0 k b p l (legalCalls p l) false) true := by
    intro p l hp hl
    refine ev_unfold (fun k => rfl) ?_
    simp only [laws_FnCalls.j0]
    exact ev_neg (by simp) (l0 p l hp hl)
  refine EvP.use (spec_DrawLegalCalls_ev b hb2) (fun r hr => ?_)
  have hp : -9223372036854775808 ≤ r.1 ∧ r.1 ≤ 9223372036854775807 := by omega
  have hl := hr.2
  have hq := legalCalls_length r.1 r.2
  refine Ev.bind (impl_LegalCalls_ev r.1 r.2 (by omega) hp) (Ev.bind (laws_ascends_ev _ (by omega)) ?_)
  rw [legal_asc]
  refine ev_pos rfl (Ev.bind (impl_IsCalls_ev r.1 r.2 (by omega) hp) ?_)
  have e := legal_some r.1 r.2
  cases hc : isCalls r.1 r.2 with
  | true =>
    rw [hc, Bool.true_and] at e
    refine ev_pos rfl (Ev.bind (impl_CallsEnd_ev r.1 r.2 (by omega) hp) ?_)
    rw [e]
    have : ((!callsEnd r.1 r.2) != (!callsEnd r.1 r.2)) = false := by simp
    rw [this]
    exact j0 _ _ hp hl
  | false =>
    rw [hc, Bool.false_and] at e
    refine ev_neg (by simp) ?_
    rw [e]
    exact j0 _ _ hp hl

end Go.Proofs.Ytjnepcpjhhebaaa.Pure
