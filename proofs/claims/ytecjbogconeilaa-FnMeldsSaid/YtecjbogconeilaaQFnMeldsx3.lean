/- In the seat Ytecjbogconeilaa: what the functions compute that the law reaches, and that the machine's calls do just that; no condition beyond each contract's own. -/
import Derived.Test.YtecjbogconeilaaQFnMeldsx0
import Derived.Test.YtecjbogconeilaaQFnMeldsx1
import Derived.Test.YtecjbogconeilaaQFnMeldsx2
namespace Go.Proofs.Ytecjbogconeilaa.QFnMelds
open Go.RowKit Go.Proofs.YtecjbogconeilaaW.PrintWords Go.Proofs.YtecjbogconeilaaW.PrintLast Go.Proofs.YtecjbogconeilaaW.PrintMore
attribute [local go_sem] max2_int min2_int max_two min_two max_three min_three max_four min_four   -- for this text's walks alone
set_option linter.unusedVariables false
set_option linter.unusedSimpArgs false

/-! ### impl_MeldsIn: function 31 -/
mutual
def impl_MeldsIn.j0 : Nat → List Int → Bool → Option ((List (List Int)))
  | 0, _, _ => none
  | k + 1, x0, x17 => if x17 = true then (some ([] : List (List Int))) else ((impl_Sorted.f k x0).bind fun t247 => (impl_MeldsIn.l0 k t247 (([] : List (List Int))) (shl .i64 1 (t247.length : Int)) 0))
def impl_MeldsIn.l0 : Nat → List Int → List (List Int) → Int → Int → Option ((List (List Int)))
  | 0, _, _, _, _ => none
  | k + 1, x3, x4, x23, x24 => if x24 < x23 then (impl_MeldsIn.l1 k x3 x4 x24 (([] : List Int)) x23 x24 x3 (x3.length : Int) 0) else (some x4)
def impl_MeldsIn.l1 : Nat → List Int → List (List Int) → Int → List Int → Int → Int → List Int → Int → Int → Option ((List (List Int)))
  | 0, _, _, _, _, _, _, _, _, _ => none
  | k + 1, x3, x4, x5, x6, x23, x24, x28, x29, x30 => if x30 < x29 then (if 0 ≤ x30 then (if x30 < (x28.length : Int) then (if (Go.bits .and .i64 (shr .i64 x5 x30) 1) = 1 then (if x6.length < 17592186044416 then (impl_MeldsIn.l1 k x3 x4 x5 (x6 ++ [rd x28 x30]) x23 x24 x28 x29 (wrap64 (x30 + 1))) else (none)) else (impl_MeldsIn.l1 k x3 x4 x5 x6 x23 x24 x28 x29 (wrap64 (x30 + 1)))) else (none)) else (none)) else ((impl_IsSetMeld.f k x6).bind fun t260 => (if t260 = true then (impl_MeldsIn.j3 k x3 x4 x6 x23 x24 false) else ((impl_IsRunMeld.f k x6).bind fun t261 => (impl_MeldsIn.j3 k x3 x4 x6 x23 x24 (!t261)))))
def impl_MeldsIn.j3 : Nat → List Int → List (List Int) → List Int → Int → Int → Bool → Option ((List (List Int)))
  | 0, _, _, _, _, _, _ => none
  | k + 1, x3, x4, x6, x23, x24, x52 => if x52 = true then (impl_MeldsIn.l0 k x3 x4 x23 (wrap64 (x24 + 1))) else (impl_MeldsIn.l2 k x3 x4 x6 (x4.length : Int) x23 x24)
def impl_MeldsIn.l2 : Nat → List Int → List (List Int) → List Int → Int → Int → Int → Option ((List (List Int)))
  | 0, _, _, _, _, _, _ => none
  | k + 1, x3, x4, x6, x9, x23, x24 => if x9 > 0 then (if 0 ≤ (wrap64 (x9 - 1)) then (if (wrap64 (x9 - 1)) < (x4.length : Int) then ((impl_isBefore.f k x6 (rd_L2 x4 (wrap64 (x9 - 1)))).bind fun t263 => (if t263 = true then (impl_MeldsIn.l2 k x3 x4 x6 (wrap64 (x9 - 1)) x23 x24) else (if x4.length < 5864062014805 then ((some (x4 ++ [[]] : List (List Int))).bind fun y264 => (if 0 ≤ x9 then (if x9 < (y264.length : Int) then (impl_MeldsIn.l0 k x3 ((Go.Proofs.Ytecjbogconeilaa.Arr.shifted y264 (x9 : Int).toNat).set (x9 : Int).toNat x6) x23 (wrap64 (x24 + 1))) else (none)) else (none))) else (none)))) else (none)) else (none)) else (if x4.length < 5864062014805 then ((some (x4 ++ [[]] : List (List Int))).bind fun y264 => (if 0 ≤ x9 then (if x9 < (y264.length : Int) then (impl_MeldsIn.l0 k x3 ((Go.Proofs.Ytecjbogconeilaa.Arr.shifted y264 (x9 : Int).toNat).set (x9 : Int).toNat x6) x23 (wrap64 (x24 + 1))) else (none)) else (none))) else (none))
end
def impl_MeldsIn.f (k : Nat) (l0 : List Int) : Option ((List (List Int))) := (impl_IsHand.f k l0).bind fun t246 => (if t246 = true then (impl_MeldsIn.j0 k l0 (decide ((l0.length : Int) > 12))) else (impl_MeldsIn.j0 k l0 true))
theorem impl_MeldsIn.mono_l : ∀ k, (∀ y0 y1, LeO (impl_MeldsIn.j0 k y0 y1) (impl_MeldsIn.j0 (k + 1) y0 y1)) ∧ (∀ y0 y1 y2 y3, LeO (impl_MeldsIn.l0 k y0 y1 y2 y3) (impl_MeldsIn.l0 (k + 1) y0 y1 y2 y3)) ∧ (∀ y0 y1 y2 y3 y4 y5 y6 y7 y8, LeO (impl_MeldsIn.l1 k y0 y1 y2 y3 y4 y5 y6 y7 y8) (impl_MeldsIn.l1 (k + 1) y0 y1 y2 y3 y4 y5 y6 y7 y8)) ∧ (∀ y0 y1 y2 y3 y4 y5, LeO (impl_MeldsIn.j3 k y0 y1 y2 y3 y4 y5) (impl_MeldsIn.j3 (k + 1) y0 y1 y2 y3 y4 y5)) ∧ (∀ y0 y1 y2 y3 y4 y5, LeO (impl_MeldsIn.l2 k y0 y1 y2 y3 y4 y5) (impl_MeldsIn.l2 (k + 1) y0 y1 y2 y3 y4 y5))
  | 0 => ⟨fun _ _ r h => by simp [impl_MeldsIn.j0] at h, fun _ _ _ _ r h => by simp [impl_MeldsIn.l0] at h, fun _ _ _ _ _ _ _ _ _ r h => by simp [impl_MeldsIn.l1] at h, fun _ _ _ _ _ _ r h => by simp [impl_MeldsIn.j3] at h, fun _ _ _ _ _ _ r h => by simp [impl_MeldsIn.l2] at h⟩
  | k + 1 => by
    obtain ⟨ih0, ih1, ih2, ih3, ih4⟩ := impl_MeldsIn.mono_l k
    refine ⟨?_, ?_, ?_, ?_, ?_⟩
    · intro y0 y1
      unfold impl_MeldsIn.j0
      repeat' first
      | (with_reducible exact ih0 _ _)
      | (with_reducible exact ih1 _ _ _ _)
      | (with_reducible exact ih2 _ _ _ _ _ _ _ _ _)
      | (with_reducible exact ih3 _ _ _ _ _ _)
      | (with_reducible exact ih4 _ _ _ _ _ _)
      | (with_reducible exact impl_IsHand.mono _ _)
      | (with_reducible exact impl_IsRunMeld.mono _ _)
      | (with_reducible exact impl_IsSetMeld.mono _ _)
      | (with_reducible exact impl_Sorted.mono _ _)
      | (with_reducible exact impl_isBefore.mono _ _ _)
      | (with_reducible exact LeO.refl _)
      | (with_reducible exact LeO.none _)
      | (with_reducible refine LeO.ite ?_ ?_)
      | (with_reducible refine LeO.bind ?_ (fun _ => ?_))
      | exact ih0 _ _
      | exact ih1 _ _ _ _
      | exact ih2 _ _ _ _ _ _ _ _ _
      | exact ih3 _ _ _ _ _ _
      | exact ih4 _ _ _ _ _ _
      | exact impl_IsHand.mono _ _
      | exact impl_IsRunMeld.mono _ _
      | exact impl_IsSetMeld.mono _ _
      | exact impl_Sorted.mono _ _
      | exact impl_isBefore.mono _ _ _
      | exact LeO.none _
      | refine LeO.ite ?_ ?_
      | refine LeO.bind ?_ (fun _ => ?_)
    · intro y0 y1 y2 y3
      unfold impl_MeldsIn.l0
      repeat' first
      | (with_reducible exact ih0 _ _)
      | (with_reducible exact ih1 _ _ _ _)
      | (with_reducible exact ih2 _ _ _ _ _ _ _ _ _)
      | (with_reducible exact ih3 _ _ _ _ _ _)
      | (with_reducible exact ih4 _ _ _ _ _ _)
      | (with_reducible exact impl_IsHand.mono _ _)
      | (with_reducible exact impl_IsRunMeld.mono _ _)
      | (with_reducible exact impl_IsSetMeld.mono _ _)
      | (with_reducible exact impl_Sorted.mono _ _)
      | (with_reducible exact impl_isBefore.mono _ _ _)
      | (with_reducible exact LeO.refl _)
      | (with_reducible exact LeO.none _)
      | (with_reducible refine LeO.ite ?_ ?_)
      | (with_reducible refine LeO.bind ?_ (fun _ => ?_))
      | exact ih0 _ _
      | exact ih1 _ _ _ _
      | exact ih2 _ _ _ _ _ _ _ _ _
      | exact ih3 _ _ _ _ _ _
      | exact ih4 _ _ _ _ _ _
      | exact impl_IsHand.mono _ _
      | exact impl_IsRunMeld.mono _ _
      | exact impl_IsSetMeld.mono _ _
      | exact impl_Sorted.mono _ _
      | exact impl_isBefore.mono _ _ _
      | exact LeO.none _
      | refine LeO.ite ?_ ?_
      | refine LeO.bind ?_ (fun _ => ?_)
    · intro y0 y1 y2 y3 y4 y5 y6 y7 y8
      unfold impl_MeldsIn.l1
      repeat' first
      | (with_reducible exact ih0 _ _)
      | (with_reducible exact ih1 _ _ _ _)
      | (with_reducible exact ih2 _ _ _ _ _ _ _ _ _)
      | (with_reducible exact ih3 _ _ _ _ _ _)
      | (with_reducible exact ih4 _ _ _ _ _ _)
      | (with_reducible exact impl_IsHand.mono _ _)
      | (with_reducible exact impl_IsRunMeld.mono _ _)
      | (with_reducible exact impl_IsSetMeld.mono _ _)
      | (with_reducible exact impl_Sorted.mono _ _)
      | (with_reducible exact impl_isBefore.mono _ _ _)
      | (with_reducible exact LeO.refl _)
      | (with_reducible exact LeO.none _)
      | (with_reducible refine LeO.ite ?_ ?_)
      | (with_reducible refine LeO.bind ?_ (fun _ => ?_))
      | exact ih0 _ _
      | exact ih1 _ _ _ _
      | exact ih2 _ _ _ _ _ _ _ _ _
      | exact ih3 _ _ _ _ _ _
      | exact ih4 _ _ _ _ _ _
      | exact impl_IsHand.mono _ _
      | exact impl_IsRunMeld.mono _ _
      | exact impl_IsSetMeld.mono _ _
      | exact impl_Sorted.mono _ _
      | exact impl_isBefore.mono _ _ _
      | exact LeO.none _
      | refine LeO.ite ?_ ?_
      | refine LeO.bind ?_ (fun _ => ?_)
    · intro y0 y1 y2 y3 y4 y5
      unfold impl_MeldsIn.j3
      repeat' first
      | (with_reducible exact ih0 _ _)
      | (with_reducible exact ih1 _ _ _ _)
      | (with_reducible exact ih2 _ _ _ _ _ _ _ _ _)
      | (with_reducible exact ih3 _ _ _ _ _ _)
      | (with_reducible exact ih4 _ _ _ _ _ _)
      | (with_reducible exact impl_IsHand.mono _ _)
      | (with_reducible exact impl_IsRunMeld.mono _ _)
      | (with_reducible exact impl_IsSetMeld.mono _ _)
      | (with_reducible exact impl_Sorted.mono _ _)
      | (with_reducible exact impl_isBefore.mono _ _ _)
      | (with_reducible exact LeO.refl _)
      | (with_reducible exact LeO.none _)
      | (with_reducible refine LeO.ite ?_ ?_)
      | (with_reducible refine LeO.bind ?_ (fun _ => ?_))
      | exact ih0 _ _
      | exact ih1 _ _ _ _
      | exact ih2 _ _ _ _ _ _ _ _ _
      | exact ih3 _ _ _ _ _ _
      | exact ih4 _ _ _ _ _ _
      | exact impl_IsHand.mono _ _
      | exact impl_IsRunMeld.mono _ _
      | exact impl_IsSetMeld.mono _ _
      | exact impl_Sorted.mono _ _
      | exact impl_isBefore.mono _ _ _
      | exact LeO.none _
      | refine LeO.ite ?_ ?_
      | refine LeO.bind ?_ (fun _ => ?_)
    · intro y0 y1 y2 y3 y4 y5
      unfold impl_MeldsIn.l2
      repeat' first
      | (with_reducible exact ih0 _ _)
      | (with_reducible exact ih1 _ _ _ _)
      | (with_reducible exact ih2 _ _ _ _ _ _ _ _ _)
      | (with_reducible exact ih3 _ _ _ _ _ _)
      | (with_reducible exact ih4 _ _ _ _ _ _)
      | (with_reducible exact impl_IsHand.mono _ _)
      | (with_reducible exact impl_IsRunMeld.mono _ _)
      | (with_reducible exact impl_IsSetMeld.mono _ _)
      | (with_reducible exact impl_Sorted.mono _ _)
      | (with_reducible exact impl_isBefore.mono _ _ _)
      | (with_reducible exact LeO.refl _)
      | (with_reducible exact LeO.none _)
      | (with_reducible refine LeO.ite ?_ ?_)
      | (with_reducible refine LeO.bind ?_ (fun _ => ?_))
      | exact ih0 _ _
      | exact ih1 _ _ _ _
      | exact ih2 _ _ _ _ _ _ _ _ _
      | exact ih3 _ _ _ _ _ _
      | exact ih4 _ _ _ _ _ _
      | exact impl_IsHand.mono _ _
      | exact impl_IsRunMeld.mono _ _
      | exact impl_IsSetMeld.mono _ _
      | exact impl_Sorted.mono _ _
      | exact impl_isBefore.mono _ _ _
      | exact LeO.none _
      | refine LeO.ite ?_ ?_
      | refine LeO.bind ?_ (fun _ => ?_)
theorem impl_MeldsIn.mono : ∀ a0 k, LeO (impl_MeldsIn.f k a0) (impl_MeldsIn.f (k + 1) a0) := by
  intro a0 k
  obtain ⟨ih0, ih1, ih2, ih3, ih4⟩ := impl_MeldsIn.mono_l k
  unfold impl_MeldsIn.f
  repeat' first
      | (with_reducible exact ih0 _ _)
      | (with_reducible exact ih1 _ _ _ _)
      | (with_reducible exact ih2 _ _ _ _ _ _ _ _ _)
      | (with_reducible exact ih3 _ _ _ _ _ _)
      | (with_reducible exact ih4 _ _ _ _ _ _)
      | (with_reducible exact impl_IsHand.mono _ _)
      | (with_reducible exact impl_IsRunMeld.mono _ _)
      | (with_reducible exact impl_IsSetMeld.mono _ _)
      | (with_reducible exact impl_Sorted.mono _ _)
      | (with_reducible exact impl_isBefore.mono _ _ _)
      | (with_reducible exact LeO.refl _)
      | (with_reducible exact LeO.none _)
      | (with_reducible refine LeO.ite ?_ ?_)
      | (with_reducible refine LeO.bind ?_ (fun _ => ?_))
      | exact ih0 _ _
      | exact ih1 _ _ _ _
      | exact ih2 _ _ _ _ _ _ _ _ _
      | exact ih3 _ _ _ _ _ _
      | exact ih4 _ _ _ _ _ _
      | exact impl_IsHand.mono _ _
      | exact impl_IsRunMeld.mono _ _
      | exact impl_IsSetMeld.mono _ _
      | exact impl_Sorted.mono _ _
      | exact impl_isBefore.mono _ _ _
      | exact LeO.none _
      | refine LeO.ite ?_ ?_
      | refine LeO.bind ?_ (fun _ => ?_)
set_option maxHeartbeats 8000000 in
set_option maxRecDepth 100000 in
theorem impl_MeldsIn.calls (k : Nat) (A0 : Option Addr) (c0 : Nat) (l0 : List Int) (r : List (List Int)) (w : World) (hr0 : Kd.C (Kd.int .i64) w A0 l0.length l0) (hc0 : l0.length ≤ c0) (h : impl_MeldsIn.f k l0 = some r) :
    Calls Try.prog 31 #[.slice A0 l0.length c0] w fun e w' => ∃ v0_ : Value, e = .returned (v0_) ∧ Kd.S (Kd.slice 3 (Kd.int .i64)) 24 w' w.heap.size (fun _ => True) v0_ r ∧ Below w.heap.size w w' := by
  have HR0 := Aside0.mk hr0
  have HC0 := Aside0.mk hc0
  clear hr0 hc0
  have HB := Aside0.mk (Below.refl w.heap.size w)
  have H : ((impl_IsHand.f k l0).bind fun t246 => (if t246 = true then (impl_MeldsIn.j0 k l0 (decide ((l0.length : Int) > 12))) else (impl_MeldsIn.j0 k l0 true))) = some r := h
  clear h
  have HC2 := Aside0.mk H
  clear H
  go_enter Try.func31, Try.ntmps31
  go_upto_region 1 with (fail)
  go_cut [17] (fun v17 wc => ∃ (kq : Nat) (x17_1 : Bool), v17 = .bool x17_1 ∧ Aside0 (impl_MeldsIn.j0 kq l0 x17_1 = some r) ∧ Aside0 (kq ≤ k) ∧ Aside0 (Below w.heap.size w wc))
  case first =>
    have H := HC2.out
    clear HC2
    replace H := Option.bind_eq_some_iff.mp H
    obtain ⟨t246, A30, H⟩ := H
    replace H : (if t246 = true then (impl_MeldsIn.j0 k l0 (decide ((l0.length : Int) > 12))) else (impl_MeldsIn.j0 k l0 true)) = some r := H
    have A3 := Aside0.mk A30
    clear A30
    by_cases c4 : t246 = true
    · subst c4
      have H1 : (impl_MeldsIn.j0 k l0 (decide ((l0.length : Int) > 12))) = some r := by rw [if_pos rfl] at H; exact H
      clear H
      have H := H1
      clear H1
      have H' := Aside0.mk H
      clear H
      go_wp2_with (first | ((with_reducible refine gate_callee (f := 27) rfl ?_); refine goesL_ (some 11) rfl rfl Try.func27 (by kernel_rfl) rfl #[.slice A0 l0.length c0] rfl (by (try simp only [List.map_toArray, List.map_cons, List.map_nil]); first | done | rfl | (simp only [List.length_drop, List.length_take]; rfl)) ?_; (with_reducible refine (impl_IsHand.calls k _ _ l0 true _ ?side1 ?side2 A3.out).mono ?_); (case side1 => repeat (first | exact (Kd.C_below HR0.out HB.out) | (with_reducible refine Kd.C_alloc ?_ _) | (with_reducible refine Kd.C_drewN ?_ _) | (with_reducible refine Kd.C_drew ?_))); (case side2 => exact HC0.out); rintro e w5 ⟨rfl, hb⟩; refine ⟨_, rfl, ?_⟩; have n0_ := Aside0.mk (below_step (by repeat (first | (with_reducible first | exact HB.out | apply below_alloc | apply pw_below_drewN | apply below_drew1) | exact HB.out)) hb); clear HB; have HB := n0_; clear n0_; (try clear hb); (try clear hb2); (try clear hk); (try clear hi)))
      go_meet
      case rel => exact ⟨_, (decide ((l0.length : Int) > 12)), (by first | rfl | (simp; done) | (simp [*]; done)), H', ⟨by first | omega | exact Nat.le_refl _⟩, ⟨by repeat (first | (with_reducible first | exact HB.out | apply below_alloc | apply pw_below_drewN | apply below_drew1) | exact HB.out)⟩⟩
    · replace c4 := Bool.eq_false_iff.mpr c4
      subst c4
      have H1 : (impl_MeldsIn.j0 k l0 true) = some r := by rw [if_neg (show ¬ (false = true) by decide)] at H; exact H
      clear H
      have H := H1
      clear H1
      have H' := Aside0.mk H
      clear H
      go_wp2_with (first | ((with_reducible refine gate_callee (f := 27) rfl ?_); refine goesL_ (some 11) rfl rfl Try.func27 (by kernel_rfl) rfl #[.slice A0 l0.length c0] rfl (by (try simp only [List.map_toArray, List.map_cons, List.map_nil]); first | done | rfl | (simp only [List.length_drop, List.length_take]; rfl)) ?_; (with_reducible refine (impl_IsHand.calls k _ _ l0 false _ ?side1 ?side2 A3.out).mono ?_); (case side1 => repeat (first | exact (Kd.C_below HR0.out HB.out) | (with_reducible refine Kd.C_alloc ?_ _) | (with_reducible refine Kd.C_drewN ?_ _) | (with_reducible refine Kd.C_drew ?_))); (case side2 => exact HC0.out); rintro e w6 ⟨rfl, hb⟩; refine ⟨_, rfl, ?_⟩; have n0_ := Aside0.mk (below_step (by repeat (first | (with_reducible first | exact HB.out | apply below_alloc | apply pw_below_drewN | apply below_drew1) | exact HB.out)) hb); clear HB; have HB := n0_; clear n0_; (try clear hb); (try clear hb2); (try clear hk); (try clear hi)))
      go_meet
      case rel => exact ⟨_, (true), (by first | rfl | (simp; done) | (simp [*]; done)), H', ⟨by first | omega | exact Nat.le_refl _⟩, ⟨by repeat (first | (with_reducible first | exact HB.out | apply below_alloc | apply pw_below_drewN | apply below_drew1) | exact HB.out)⟩⟩
  case rest =>
    clear HC2
    try clear c2
    try clear p2
    try clear c3
    try clear c4
    obtain ⟨kq, x17_1, rfl, HA, HJ1, HB⟩ := hcut
    cases kq with
    | zero => exact absurd HA.out (by simp [impl_MeldsIn.j0])
    | succ kj1 =>
      have H := HA.out
      clear HA
      simp only [impl_MeldsIn.j0] at H
      by_cases c7 : x17_1 = true
      · subst c7
        have H1 : (some ([] : List (List Int))) = some r := by rw [if_pos rfl] at H; exact H
        clear H
        have H := H1
        clear H1
        obtain rfl := Option.some.inj H
        go_wp2
        go_ret
        exact ⟨_, by first | rfl | (simp [errW_none, errW_some] <;> rfl) | (simp [*, errW_none, errW_some] <;> rfl), by first | exact Kd.S_nil _ _ _ _ _ | exact Kd.N_nil _ _ _ _ _ | exact Kd.V_nil _ _ _ _ _ | exact Kd.Q_nil _ _ _ _ _ | exact Kd.R_nil _ _ _ _ _, by repeat (first | (with_reducible first | exact HB.out | apply below_alloc | apply pw_below_drewN | apply below_drew1) | exact HB.out)⟩
      · replace c7 := Bool.eq_false_iff.mpr c7
        subst c7
        have H1 : ((impl_Sorted.f kj1 l0).bind fun t247 => (impl_MeldsIn.l0 kj1 t247 (([] : List (List Int))) (shl .i64 1 (t247.length : Int)) 0)) = some r := by rw [if_neg (show ¬ (false = true) by decide)] at H; exact H
        clear H
        have H := H1
        clear H1
        replace H := Option.bind_eq_some_iff.mp H
        obtain ⟨t247, A80, H⟩ := H
        replace H : (impl_MeldsIn.l0 kj1 t247 (([] : List (List Int))) (shl .i64 1 (t247.length : Int)) 0) = some r := H
        have A8 := Aside0.mk A80
        clear A80
        obtain ⟨y250, hy250⟩ : ∃ y_ : List (List Int), y_ = (([] : List (List Int))) := ⟨_, rfl⟩
        replace H : (impl_MeldsIn.l0 kj1 t247 y250 (shl .i64 1 (t247.length : Int)) 0) = some r := by first | (rw [hy250]; with_reducible exact H) | (have H2_ := (Option.bind_some _ _).symm.trans H; rw [hy250]; with_reducible exact H2_) | (have H2_ := (Option.bind_some _ _).symm.trans H; with_reducible exact H2_) | with_reducible exact H | (rw [hy250]; exact H) | exact H
        have Ny250 := Aside0.mk hy250
        clear hy250
        obtain ⟨ji9, hji9⟩ : ∃ j_ : Int, (shl .i64 1 (t247.length : Int)) = j_ := ⟨_, rfl⟩
        replace H : (impl_MeldsIn.l0 kj1 t247 y250 ji9 0) = some r := by first | (rw [hji9] at H; exact H) | (simp only [hji9] at H ⊢; exact H)
        (try rw [hji9] at A8)
        have hji9_ : (IntKind.i64.wrap (1 * 2 ^ min (t247.length : Int).toNat 64)) = ji9 := hji9
        have hji9z : (t247.length : Int) ≤ 64 → (IntKind.i64.wrap (1 * 2 ^ (t247.length : Int).toNat)) = ji9 := shl_small hji9
        have hji9p : (IntKind.i64.wrap (1 * 2 ^ min t247.length 64)) = ji9 := hji9_
        have hji9q : (t247.length : Int) ≤ 64 → (IntKind.i64.wrap (1 * 2 ^ t247.length)) = ji9 := hji9z
        have hji9r : (IntKind.i64.wrap (2 ^ min t247.length 64)) = ji9 := by have h_ := hji9p; rw [Int.one_mul] at h_; exact h_
        have hji9s : (t247.length : Int) ≤ 64 → (IntKind.i64.wrap (2 ^ t247.length)) = ji9 := fun hle_ => by have h_ := hji9q hle_; rw [Int.one_mul] at h_; exact h_
        have hji9u : (IntKind.i64.wrap (2 ^ min (t247.length : Int).toNat 64)) = ji9 := by have h_ := hji9_; rw [Int.one_mul] at h_; exact h_
        have hji9v : (t247.length : Int) ≤ 64 → (IntKind.i64.wrap (2 ^ (t247.length : Int).toNat)) = ji9 := fun hle_ => by have h_ := hji9z hle_; rw [Int.one_mul] at h_; exact h_
        have hji9y : (wrap64 (1 * 2 ^ min (t247.length : Int).toNat 64)) = ji9 := (i64_w _).symm.trans hji9_
        have hji9x : (t247.length : Int) ≤ 64 → (wrap64 (1 * 2 ^ (t247.length : Int).toNat)) = ji9 := fun h_ => (i64_w _).symm.trans (hji9z h_)
        have H' := Aside0.mk H
        clear H
        go_wp2_with (first | ((with_reducible refine gate_callee (f := 73) rfl ?_); refine goesL_ (some 19) rfl rfl Try.func73 (by kernel_rfl) rfl #[.slice A0 l0.length c0] rfl (by (try simp only [List.map_toArray, List.map_cons, List.map_nil]); first | done | rfl | (simp only [List.length_drop, List.length_take]; rfl)) ?_; (with_reducible refine (impl_Sorted.calls kj1 _ _ l0 t247 _ ?side1 ?side2 A8.out).mono ?_); (case side1 => repeat (first | exact (Kd.C_below HR0.out HB.out) | (with_reducible refine Kd.C_alloc ?_ _) | (with_reducible refine Kd.C_drewN ?_ _) | (with_reducible refine Kd.C_drew ?_))); (case side2 => exact HC0.out); rintro e w10 ⟨v248, rfl, ho0, hb⟩; refine ⟨_, rfl, ?_⟩; have n0_ := Aside0.mk (Kd.R_lower ho0 (below_size (by repeat (first | (with_reducible first | exact HB.out | apply below_alloc | apply pw_below_drewN | apply below_drew1) | exact HB.out)))); have n1_ := Aside0.mk (below_step (by repeat (first | (with_reducible first | exact HB.out | apply below_alloc | apply pw_below_drewN | apply below_drew1) | exact HB.out)) hb); clear HB; have HO249 := n0_; have HB := n1_; clear n0_ n1_; (try clear hb); (try clear hb2); (try clear hk); (try clear hi); (try clear ho0)) | ((with_reducible refine gate_dst (N := 20) rfl ?_); (try (refine gate_guard (by rfl) ?_; dsimp only)); refine Kd.S_lit (Kd.slice 3 (Kd.int .i64)) _ 24 ?hg (N := 20) ?hd (xs := ([] : List (List Int))) (inner := []) (ok := fun _ => True) (okp := fun _ => True) ?hr ?hp (fun _ hk => hk) trivial (Below.refl _ _) (Nat.le_refl _) (by simp) ?_; (case hd => rfl); (case hg => rfl); (case hr => first | (go_simp; done) | (go_simp; rfl)); (case hp => exact (Reps.none _ _)); intro v251 w11 ho12 hb hg_ hnew_; clear hg_ hnew_; (first | rw [← Ny250.out] at ho12 | (simp only [Int.reduceToNat] at ho12; rw [← Ny250.out] at ho12)); have n0_ := Aside0.mk (Kd.R_below (by (with_reducible repeat (first | apply Kd.R_alloc | apply Kd.R_drewN | apply Kd.R_drew)); exact HO249.out) hb); have n1_ := Aside0.mk (Kd.S_lower (Kd.S_new' ho12 (Kd.R_lt (by (with_reducible repeat (first | apply Kd.R_alloc | apply Kd.R_drewN | apply Kd.R_drew)); exact HO249.out))) (below_size (by repeat (first | (with_reducible first | exact HB.out | apply below_alloc | apply pw_below_drewN | apply below_drew1) | exact HB.out)))); have n2_ := Aside0.mk (below_step (by repeat (first | (with_reducible first | exact HB.out | apply below_alloc | apply pw_below_drewN | apply below_drew1) | exact HB.out)) hb); clear HO249; clear HB; have HO249 := n0_; have HO252 := n1_; have HB := n2_; clear n0_ n1_ n2_; clear hb ho12; obtain ⟨Ao13, co13, eo13⟩ := Kd.R_slice HO249.out; subst eo13))
        go_loopg [4, 24] kj1 (fun kq v4 v24 w' => ∃ (x4_2 : List (List Int)) (x24_2 : Int), v24 = .int .i64 x24_2 ∧ Aside0 (impl_MeldsIn.l0 kq t247 x4_2 ji9 x24_2 = some r) ∧ Aside0 (kq ≤ kj1) ∧ Aside0 (Kd.R (Kd.int .i64) 3 w' w.heap.size (fun _ => True) (.slice Ao13 t247.length co13) t247) ∧ Aside0 (Kd.S (Kd.slice 3 (Kd.int .i64)) 24 w' w.heap.size (fun k_ => some k_ ≠ ((.slice Ao13 t247.length co13) : Value).ownBlock) v4 x4_2) ∧ Aside0 (Below w.heap.size w w'))
        case atStart => exact ⟨(y250), (0), (by first | rfl | (simp; done) | (simp [*]; done)), H', ⟨Nat.le_refl _⟩, ⟨by (with_reducible repeat (first | apply Kd.R_alloc | apply Kd.R_drewN | apply Kd.R_drew)); exact HO249.out⟩, ⟨by (with_reducible repeat (first | apply Kd.S_alloc | apply Kd.S_drewN | apply Kd.S_drew)); exact Kd.S_mono HO252.out (fun _ hk => by first | exact hk.2 | exact hk)⟩, ⟨by repeat (first | (with_reducible first | exact HB.out | apply below_alloc | apply pw_below_drewN | apply below_drew1) | exact HB.out)⟩⟩
        case round =>
          clear H'
          try clear c2
          try clear p2
          try clear c3
          try clear c4
          try clear p6
          try clear c7
          try clear p2
          obtain ⟨x4_2, x24_2, rfl, HA, HK2, HO_3, HO_4, HB⟩ := hrel
          cases gk with
          | zero => exact absurd HA.out (by simp [impl_MeldsIn.l0])
          | succ k2 =>
            have H := HA.out
            clear HA
            simp only [impl_MeldsIn.l0] at H
            by_cases c14 : x24_2 < ji9
            · rw [if_pos c14] at H
              have c14b0 : decide (x24_2 < ji9) = true := decide_eq_true c14
              clear c14
              obtain ⟨y253, hy253⟩ : ∃ y_ : List Int, y_ = (([] : List Int)) := ⟨_, rfl⟩
              replace H : (impl_MeldsIn.l1 k2 t247 x4_2 x24_2 y253 ji9 x24_2 t247 (t247.length : Int) 0) = some r := by first | (rw [hy253]; with_reducible exact H) | (have H2_ := (Option.bind_some _ _).symm.trans H; rw [hy253]; with_reducible exact H2_) | (have H2_ := (Option.bind_some _ _).symm.trans H; with_reducible exact H2_) | with_reducible exact H | (rw [hy253]; exact H) | exact H
              have Ny253 := Aside0.mk hy253
              clear hy253
              have H' := Aside0.mk H
              clear H
              go_wp2_with (first | ((with_reducible refine gate_dst (N := 27) rfl ?_); (try (refine gate_guard (by rfl) ?_; dsimp only)); refine Kd.R_lit (Kd.int .i64) _ 3 ?hg (N := 27) ?hd (xs := ([] : List Int)) (inner := []) (ok := fun _ => True) (okp := fun _ => True) ?hr ?hp (fun _ hk => hk) trivial (Below.refl _ _) (Nat.le_refl _) (by simp) ?_; (case hd => rfl); (case hg => rfl); (case hr => first | (go_simp; done) | (go_simp; rfl)); (case hp => exact (Reps.none _ _)); intro v254 w15 ho16 hb hg_ hnew_; clear hg_ hnew_; (first | rw [← Ny253.out] at ho16 | (simp only [Int.reduceToNat] at ho16; rw [← Ny253.out] at ho16)); have n0_ := Aside0.mk (Kd.R_elder' (by (with_reducible repeat (first | apply Kd.R_alloc | apply Kd.R_drewN | apply Kd.R_drew)); exact HO_3.out) (Kd.R_base ho16) hb); have n1_ := Aside0.mk (Kd.S_elder' (by (with_reducible repeat (first | apply Kd.S_alloc | apply Kd.S_drewN | apply Kd.S_drew)); exact HO_4.out) (Kd.R_base ho16) hb); have n2_ := Aside0.mk (Kd.R_lower (Kd.R_new' ho16 (Kd.R_lt (by (with_reducible repeat (first | apply Kd.R_alloc | apply Kd.R_drewN | apply Kd.R_drew)); exact HO_3.out))) (below_size (by repeat (first | (with_reducible first | exact HB.out | apply below_alloc | apply pw_below_drewN | apply below_drew1) | exact HB.out)))); have n3_ := Aside0.mk (below_step (by repeat (first | (with_reducible first | exact HB.out | apply below_alloc | apply pw_below_drewN | apply below_drew1) | exact HB.out)) hb); clear HO_3; clear HO_4; clear HB; have HO_3 := n0_; have HO_4 := n1_; have HO255 := n2_; have HB := n3_; clear n0_ n1_ n2_ n3_; clear hb ho16))
              go_loopg [6, 30] k2 (fun kq v6 v30 w' => ∃ (x6_3 : List Int) (x30_3 : Int), v30 = .int .i64 x30_3 ∧ Aside0 (impl_MeldsIn.l1 kq t247 x4_2 x24_2 x6_3 ji9 x24_2 t247 (t247.length : Int) x30_3 = some r) ∧ Aside0 (kq ≤ k2) ∧ Aside0 (Kd.R (Kd.int .i64) 3 w' w.heap.size (fun k_ => some k_ ≠ (v6 : Value).ownBlock) (.slice Ao13 t247.length co13) t247) ∧ Aside0 (Kd.S (Kd.slice 3 (Kd.int .i64)) 24 w' w.heap.size (fun k_ => some k_ ≠ ((.slice Ao13 t247.length co13) : Value).ownBlock ∧ some k_ ≠ (v6 : Value).ownBlock ∧ some k_ ≠ ((.slice Ao13 t247.length co13) : Value).ownBlock) u4 x4_2) ∧ Aside0 (Kd.R (Kd.int .i64) 3 w' w.heap.size (fun k_ => some k_ ≠ ((.slice Ao13 t247.length co13) : Value).ownBlock ∧ some k_ ≠ ((.slice Ao13 t247.length co13) : Value).ownBlock) v6 x6_3) ∧ Aside0 (Kd.R (Kd.int .i64) 3 w' w.heap.size (fun k_ => some k_ ≠ (v6 : Value).ownBlock) (.slice Ao13 t247.length co13) t247) ∧ Aside0 (Below w.heap.size w w'))
              case atStart => exact ⟨(y253), (0), (by first | rfl | (simp; done) | (simp [*]; done)), H', ⟨Nat.le_refl _⟩, ⟨by (with_reducible repeat (first | apply Kd.R_alloc | apply Kd.R_drewN | apply Kd.R_drew)); exact Kd.R_mono HO_3.out (fun _ hk => by first | exact hk.2 | exact hk)⟩, ⟨by (with_reducible repeat (first | apply Kd.S_alloc | apply Kd.S_drewN | apply Kd.S_drew)); exact Kd.S_mono HO_4.out (fun _ hk => ⟨hk.1, ⟨hk.2, hk.1⟩⟩)⟩, ⟨by (with_reducible repeat (first | apply Kd.R_alloc | apply Kd.R_drewN | apply Kd.R_drew)); exact Kd.R_mono HO255.out (fun _ hk => ⟨hk.2, hk.2⟩)⟩, ⟨by (with_reducible repeat (first | apply Kd.R_alloc | apply Kd.R_drewN | apply Kd.R_drew)); exact Kd.R_mono HO_3.out (fun _ hk => by first | exact hk.2 | exact hk)⟩, ⟨by repeat (first | (with_reducible first | exact HB.out | apply below_alloc | apply pw_below_drewN | apply below_drew1) | exact HB.out)⟩⟩
              case round =>
                clear H'
                try clear c1
                try clear c2
                try clear p2
                try clear c3
                try clear c4
                try clear p6
                try clear c7
                try clear c14
                try clear c14b0
                try clear p2
                try clear p6
                obtain ⟨x6_3, x30_3, rfl, HA, HK3, HO_3, HO_4, HO_6, HO_28, HB⟩ := hrel
                cases gk with
                | zero => exact absurd HA.out (by simp [impl_MeldsIn.l1])
                | succ k3 =>
                  have H := HA.out
                  clear HA
                  simp only [impl_MeldsIn.l1] at H
                  by_cases c17 : x30_3 < (t247.length : Int)
                  · rw [if_pos c17] at H
                    have c17b0 : decide (x30_3 < (t247.length : Int)) = true := decide_eq_true c17
                    clear c17
                    by_cases c18 : 0 ≤ x30_3
                    · rw [if_pos c18] at H
                      have c18b0 : decide (0 ≤ x30_3) = true := decide_eq_true c18
                      clear c18
                      by_cases c19 : x30_3 < (t247.length : Int)
                      · rw [if_pos c19] at H
                        have c19b0 : decide (x30_3 < (t247.length : Int)) = true := decide_eq_true c19
                        clear c19
                        have c20b0 := eq_true (of_decide_eq_true (by first | (with_reducible assumption) | assumption) : 0 ≤ x30_3)
                        obtain ⟨ji21, hji21⟩ : ∃ j_ : Int, (shr .i64 x24_2 x30_3) = j_ := ⟨_, rfl⟩
                        replace H : (if (Go.bits .and .i64 (ji21) 1) = 1 then (if x6_3.length < 17592186044416 then (impl_MeldsIn.l1 k3 t247 x4_2 x24_2 (x6_3 ++ [rd t247 x30_3]) ji9 x24_2 t247 (t247.length : Int) (wrap64 (x30_3 + 1))) else (none)) else (impl_MeldsIn.l1 k3 t247 x4_2 x24_2 x6_3 ji9 x24_2 t247 (t247.length : Int) (wrap64 (x30_3 + 1)))) = some r := by first | (rw [hji21] at H; exact H) | (simp only [hji21] at H ⊢; exact H)
                        have hji21_ : (x24_2 / 2 ^ min x30_3.toNat 64) = ji21 := hji21
                        have hji21z : x30_3 ≤ 64 → (x24_2 / 2 ^ x30_3.toNat) = ji21 := shr_small hji21
                        by_cases c22 : (Go.bits .and .i64 (ji21) 1) = 1
                        · rw [if_pos c22] at H
                          have c22b0 : ((Go.bits .and .i64 (ji21) 1) == 1) = true := beq_iff_eq.mpr c22
                          have c22b1 : ((Go.bits .and .i64 (ji21) 1) != 1) = false := bne_eq_false_iff_eq.mpr c22
                          clear c22
                          by_cases c23 : x6_3.length < 17592186044416
                          · rw [if_pos c23] at H
                            have LMc23 := Aside0.mk c23
                            clear c23
                            obtain ⟨y257, hy257⟩ : ∃ y_ : List Int, y_ = (x6_3 ++ [rd t247 x30_3]) := ⟨_, rfl⟩
                            replace H : (impl_MeldsIn.l1 k3 t247 x4_2 x24_2 y257 ji9 x24_2 t247 (t247.length : Int) (wrap64 (x30_3 + 1))) = some r := by first | (rw [hy257]; with_reducible exact H) | (have H2_ := (Option.bind_some _ _).symm.trans H; rw [hy257]; with_reducible exact H2_) | (have H2_ := (Option.bind_some _ _).symm.trans H; with_reducible exact H2_) | with_reducible exact H | (rw [hy257]; exact H) | exact H
                            have Ny257 := Aside0.mk hy257
                            clear hy257
                            have H' := Aside0.mk H
                            clear H
                            have p256 : 0 ≤ (x30_3 : Int) := of_decide_eq_true (by first | (with_reducible assumption) | assumption)
                            have q256 : x30_3 < (t247.length : Int) := of_decide_eq_true (by first | (with_reducible assumption) | assumption)
                            obtain ⟨ad256, e256, hx256_0⟩ := Kd.at_int (Kd.R_reads' HO_28.out).2.2 x30_3 p256 q256
                            cases e256
                            replace p256 := eq_true p256
                            replace q256 := eq_true q256
                            go_wp2_with (first | ((with_reducible refine gate_builtin (b := .append) (xs := #[.tmp 40, .tmp 42]) rfl ?_); (try (refine gate_guard (by rfl) ?_; dsimp only)); at_builtin; refine Kd.R_append (Kd.int .i64) (w0 := w) w.heap.size rfl (.tmp 40) (.tmp 42) 24 3 (.int .i64 0) 8 rfl Try.underlying24 info3 rfl (by decide) (by omega) u6 x6_3 (rd t247 x30_3) [.int .i64 (rd t247 x30_3)] (fun k_ => some k_ ≠ (.slice (some ad256) t247.length co13 : Value).ownBlock ∧ some k_ ≠ (.slice (some ad256) t247.length co13 : Value).ownBlock) (fun _ => False) rfl rfl ?aP (fun _ hk => hk.elim) ?aF ?aO ?aB ?aS ?aL ?_; (case aP => exact rfl); (case aB => exact (by repeat (first | (with_reducible first | exact HB.out | apply below_alloc | apply pw_below_drewN | apply below_drew1) | exact HB.out))); (case aF => exact (fun k_ hk => ⟨Kd.fresh' (Kd.R_lt (by (with_reducible repeat (first | apply Kd.R_alloc | apply Kd.R_drewN | apply Kd.R_drew)); exact HO_3.out)) k_ hk, Kd.fresh' (Kd.R_lt (by (with_reducible repeat (first | apply Kd.R_alloc | apply Kd.R_drewN | apply Kd.R_drew)); exact HO_28.out)) k_ hk⟩)); (case aO => exact (by (with_reducible repeat (first | apply Kd.R_alloc | apply Kd.R_drewN | apply Kd.R_drew)); exact HO_6.out)); (case aS => exact (below_size (by repeat (first | (with_reducible first | exact HB.out | apply below_alloc | apply pw_below_drewN | apply below_drew1) | exact HB.out)))); (case aL => have := LMc23.out; omega); intro v258 w24 ho hb hg hat; rw [← Ny257.out] at ho; have n0_ := Aside0.mk (Kd.R_after (ok := (fun _ => True)) (by (with_reducible repeat (first | apply Kd.R_alloc | apply Kd.R_drewN | apply Kd.R_drew)); exact Kd.R_mono HO_3.out (fun _ hk => ⟨trivial, hk⟩)) hg hat); have n1_ := Aside0.mk (Kd.S_after (ok := (fun k_ => some k_ ≠ (.slice (some ad256) t247.length co13 : Value).ownBlock ∧ some k_ ≠ (.slice (some ad256) t247.length co13 : Value).ownBlock)) (by (with_reducible repeat (first | apply Kd.S_alloc | apply Kd.S_drewN | apply Kd.S_drew)); exact Kd.S_mono HO_4.out (fun _ hk => ⟨⟨hk.1, hk.2.2⟩, hk.2.1⟩)) hg hat); have n2_ := Aside0.mk (Kd.R_after (ok := (fun _ => True)) (by (with_reducible repeat (first | apply Kd.R_alloc | apply Kd.R_drewN | apply Kd.R_drew)); exact Kd.R_mono HO_28.out (fun _ hk => ⟨trivial, hk⟩)) hg hat); have n3_ := Aside0.mk (hb); have n4_ := Aside0.mk (ho); clear HO_3; clear HO_4; clear HO_28; clear HB; clear HO_6; have HO_3 := n0_; have HO_4 := n1_; have HO_28 := n2_; have HB := n3_; have HO259 := n4_; clear n0_ n1_ n2_ n3_ n4_; clear ho hb hg hat))
                            go_roundg k3
                            case measure => have := HJ1.out; have := HK2.out; have := HK3.out; omega
                            case rel => exact ⟨(y257), (wrap64 (x30_3 + 1)), (by first | rfl | (simp; done) | (simp [*]; done)), H', ⟨by have := HJ1.out; have := HK2.out; have := HK3.out; omega⟩, ⟨by (with_reducible repeat (first | apply Kd.R_alloc | apply Kd.R_drewN | apply Kd.R_drew)); exact Kd.R_mono HO_3.out (fun _ hk => by first | exact hk.2 | exact hk)⟩, ⟨by (with_reducible repeat (first | apply Kd.S_alloc | apply Kd.S_drewN | apply Kd.S_drew)); exact Kd.S_mono HO_4.out (fun _ hk => ⟨hk.1.1, ⟨hk.2, hk.1.2⟩⟩)⟩, ⟨by (with_reducible repeat (first | apply Kd.R_alloc | apply Kd.R_drewN | apply Kd.R_drew)); exact HO259.out⟩, ⟨by (with_reducible repeat (first | apply Kd.R_alloc | apply Kd.R_drewN | apply Kd.R_drew)); exact Kd.R_mono HO_28.out (fun _ hk => by first | exact hk.2 | exact hk)⟩, ⟨by repeat (first | (with_reducible first | exact HB.out | apply below_alloc | apply pw_below_drewN | apply below_drew1) | exact HB.out)⟩⟩
                          · rw [if_neg c23] at H
                            exact absurd H (by simp)
                        · rw [if_neg c22] at H
                          have c22b0 : ((Go.bits .and .i64 (ji21) 1) == 1) = false := beq_eq_false_iff_ne.mpr c22
                          have c22b1 : ((Go.bits .and .i64 (ji21) 1) != 1) = true := bne_iff_ne.mpr c22
                          have H' := Aside0.mk H
                          clear H
                          have p256 : 0 ≤ (x30_3 : Int) := of_decide_eq_true (by first | (with_reducible assumption) | assumption)
                          have q256 : x30_3 < (t247.length : Int) := of_decide_eq_true (by first | (with_reducible assumption) | assumption)
                          obtain ⟨ad256, e256, hx256_0⟩ := Kd.at_int (Kd.R_reads' HO_28.out).2.2 x30_3 p256 q256
                          cases e256
                          replace p256 := eq_true p256
                          replace q256 := eq_true q256
                          go_wp2
                          go_roundg k3
                          case measure => have := HJ1.out; have := HK2.out; have := HK3.out; omega
                          case rel => exact ⟨(x6_3), (wrap64 (x30_3 + 1)), (by first | rfl | (simp; done) | (simp [*]; done)), H', ⟨by have := HJ1.out; have := HK2.out; have := HK3.out; omega⟩, ⟨by (with_reducible repeat (first | apply Kd.R_alloc | apply Kd.R_drewN | apply Kd.R_drew)); exact HO_3.out⟩, ⟨by (with_reducible repeat (first | apply Kd.S_alloc | apply Kd.S_drewN | apply Kd.S_drew)); exact HO_4.out⟩, ⟨by (with_reducible repeat (first | apply Kd.R_alloc | apply Kd.R_drewN | apply Kd.R_drew)); exact HO_6.out⟩, ⟨by (with_reducible repeat (first | apply Kd.R_alloc | apply Kd.R_drewN | apply Kd.R_drew)); exact HO_28.out⟩, ⟨by repeat (first | (with_reducible first | exact HB.out | apply below_alloc | apply pw_below_drewN | apply below_drew1) | exact HB.out)⟩⟩
                      · rw [if_neg c19] at H
                        exact absurd H (by simp)
                    · rw [if_neg c18] at H
                      exact absurd H (by simp)
                  · rw [if_neg c17] at H
                    have c17b0 : decide (x30_3 < (t247.length : Int)) = false := decide_eq_false c17
                    clear c17
                    have HC25 := Aside0.mk H
                    clear H
                    go_upto_region 14 with (fail)
                    go_cut [52] (fun v52 wc => ∃ (kq : Nat) (x52_24 : Bool), v52 = .bool x52_24 ∧ Aside0 (impl_MeldsIn.j3 kq t247 x4_2 x6_3 ji9 x24_2 x52_24 = some r) ∧ Aside0 (kq ≤ k3) ∧ Aside0 (Kd.R (Kd.int .i64) 3 wc w.heap.size (fun k_ => some k_ ≠ (u6 : Value).ownBlock) (.slice Ao13 t247.length co13) t247) ∧ Aside0 (Kd.S (Kd.slice 3 (Kd.int .i64)) 24 wc w.heap.size (fun k_ => some k_ ≠ ((.slice Ao13 t247.length co13) : Value).ownBlock ∧ some k_ ≠ (u6 : Value).ownBlock) u4 x4_2) ∧ Aside0 (Kd.R (Kd.int .i64) 3 wc w.heap.size (fun k_ => some k_ ≠ ((.slice Ao13 t247.length co13) : Value).ownBlock) u6 x6_3) ∧ Aside0 (Below w.heap.size w wc))
                    case first =>
                      have H := HC25.out
                      clear HC25
                      replace H := Option.bind_eq_some_iff.mp H
                      obtain ⟨t260, A260, H⟩ := H
                      replace H : (if t260 = true then (impl_MeldsIn.j3 k3 t247 x4_2 x6_3 ji9 x24_2 false) else ((impl_IsRunMeld.f k3 x6_3).bind fun t261 => (impl_MeldsIn.j3 k3 t247 x4_2 x6_3 ji9 x24_2 (!t261)))) = some r := H
                      have A26 := Aside0.mk A260
                      clear A260
                      by_cases c27 : t260 = true
                      · subst c27
                        have H1 : (impl_MeldsIn.j3 k3 t247 x4_2 x6_3 ji9 x24_2 false) = some r := by rw [if_pos rfl] at H; exact H
                        clear H
                        have H := H1
                        clear H1
                        have H' := Aside0.mk H
                        clear H
                        obtain ⟨Ao28, co28, eo28⟩ := Kd.R_slice HO_6.out
                        subst eo28
                        go_wp2_with (first | ((with_reducible refine gate_callee (f := 65) rfl ?_); refine goesL_ (some 46) rfl rfl Try.func65 (by kernel_rfl) rfl #[.slice Ao28 x6_3.length co28] rfl (by (try simp only [List.map_toArray, List.map_cons, List.map_nil]); first | done | rfl | (simp only [List.length_drop, List.length_take]; rfl)) ?_; (with_reducible refine (impl_IsSetMeld.calls k3 _ _ x6_3 true _ ?side1 ?side2 A26.out).mono ?_); (case side1 => repeat (first | exact (Kd.R_reads' HO_6.out).2.2 | (with_reducible refine Kd.C_alloc ?_ _) | (with_reducible refine Kd.C_drewN ?_ _) | (with_reducible refine Kd.C_drew ?_))); (case side2 => exact (Kd.R_reads' HO_6.out).2.1); rintro e w29 ⟨rfl, hb⟩; refine ⟨_, rfl, ?_⟩; have n0_ := Aside0.mk (Kd.R_below (by (with_reducible repeat (first | apply Kd.R_alloc | apply Kd.R_drewN | apply Kd.R_drew)); exact HO_3.out) hb); have n1_ := Aside0.mk (Kd.S_below (by (with_reducible repeat (first | apply Kd.S_alloc | apply Kd.S_drewN | apply Kd.S_drew)); exact HO_4.out) hb); have n2_ := Aside0.mk (Kd.R_below (by (with_reducible repeat (first | apply Kd.R_alloc | apply Kd.R_drewN | apply Kd.R_drew)); exact HO_6.out) hb); have n3_ := Aside0.mk (Kd.R_below (by (with_reducible repeat (first | apply Kd.R_alloc | apply Kd.R_drewN | apply Kd.R_drew)); exact HO_28.out) hb); have n4_ := Aside0.mk (below_step (by repeat (first | (with_reducible first | exact HB.out | apply below_alloc | apply pw_below_drewN | apply below_drew1) | exact HB.out)) hb); clear HO_3; clear HO_4; clear HO_6; clear HO_28; clear HB; have HO_3 := n0_; have HO_4 := n1_; have HO_6 := n2_; have HO_28 := n3_; have HB := n4_; clear n0_ n1_ n2_ n3_ n4_; (try clear hb); (try clear hb2); (try clear hk); (try clear hi)))
                        go_meet
                        case rel => exact ⟨_, (false), (by first | rfl | (simp; done) | (simp [*]; done)), H', ⟨by have := HJ1.out; have := HK2.out; have := HK3.out; first | omega | exact Nat.le_refl _⟩, ⟨by (with_reducible repeat (first | apply Kd.R_alloc | apply Kd.R_drewN | apply Kd.R_drew)); exact HO_3.out⟩, ⟨by (with_reducible repeat (first | apply Kd.S_alloc | apply Kd.S_drewN | apply Kd.S_drew)); exact Kd.S_mono HO_4.out (fun _ hk => ⟨hk.1, hk.2.1⟩)⟩, ⟨by (with_reducible repeat (first | apply Kd.R_alloc | apply Kd.R_drewN | apply Kd.R_drew)); exact Kd.R_mono HO_6.out (fun _ hk => hk.1)⟩, ⟨by repeat (first | (with_reducible first | exact HB.out | apply below_alloc | apply pw_below_drewN | apply below_drew1) | exact HB.out)⟩⟩
                      · replace c27 := Bool.eq_false_iff.mpr c27
                        subst c27
                        have H1 : ((impl_IsRunMeld.f k3 x6_3).bind fun t261 => (impl_MeldsIn.j3 k3 t247 x4_2 x6_3 ji9 x24_2 (!t261))) = some r := by rw [if_neg (show ¬ (false = true) by decide)] at H; exact H
                        clear H
                        have H := H1
                        clear H1
                        replace H := Option.bind_eq_some_iff.mp H
                        obtain ⟨t261, A300, H⟩ := H
                        replace H : (impl_MeldsIn.j3 k3 t247 x4_2 x6_3 ji9 x24_2 (!t261)) = some r := H
                        have A30 := Aside0.mk A300
                        clear A300
                        have H' := Aside0.mk H
                        clear H
                        obtain ⟨Ao31, co31, eo31⟩ := Kd.R_slice HO_6.out
                        subst eo31
                        go_wp2_with (first | ((with_reducible refine gate_callee (f := 65) rfl ?_); refine goesL_ (some 46) rfl rfl Try.func65 (by kernel_rfl) rfl #[.slice Ao31 x6_3.length co31] rfl (by (try simp only [List.map_toArray, List.map_cons, List.map_nil]); first | done | rfl | (simp only [List.length_drop, List.length_take]; rfl)) ?_; (with_reducible refine (impl_IsSetMeld.calls k3 _ _ x6_3 false _ ?side1 ?side2 A26.out).mono ?_); (case side1 => repeat (first | exact (Kd.R_reads' HO_6.out).2.2 | (with_reducible refine Kd.C_alloc ?_ _) | (with_reducible refine Kd.C_drewN ?_ _) | (with_reducible refine Kd.C_drew ?_))); (case side2 => exact (Kd.R_reads' HO_6.out).2.1); rintro e w32 ⟨rfl, hb⟩; refine ⟨_, rfl, ?_⟩; have n0_ := Aside0.mk (Kd.R_below (by (with_reducible repeat (first | apply Kd.R_alloc | apply Kd.R_drewN | apply Kd.R_drew)); exact HO_3.out) hb); have n1_ := Aside0.mk (Kd.S_below (by (with_reducible repeat (first | apply Kd.S_alloc | apply Kd.S_drewN | apply Kd.S_drew)); exact HO_4.out) hb); have n2_ := Aside0.mk (Kd.R_below (by (with_reducible repeat (first | apply Kd.R_alloc | apply Kd.R_drewN | apply Kd.R_drew)); exact HO_6.out) hb); have n3_ := Aside0.mk (Kd.R_below (by (with_reducible repeat (first | apply Kd.R_alloc | apply Kd.R_drewN | apply Kd.R_drew)); exact HO_28.out) hb); have n4_ := Aside0.mk (below_step (by repeat (first | (with_reducible first | exact HB.out | apply below_alloc | apply pw_below_drewN | apply below_drew1) | exact HB.out)) hb); clear HO_3; clear HO_4; clear HO_6; clear HO_28; clear HB; have HO_3 := n0_; have HO_4 := n1_; have HO_6 := n2_; have HO_28 := n3_; have HB := n4_; clear n0_ n1_ n2_ n3_ n4_; (try clear hb); (try clear hb2); (try clear hk); (try clear hi)) | (go_at_call 66; (with_reducible refine (impl_IsRunMeld.calls k3 _ _ x6_3 t261 _ ?side1 ?side2 A30.out).mono ?_); (case side1 => repeat (first | exact (Kd.R_reads' HO_6.out).2.2 | (with_reducible refine Kd.C_alloc ?_ _) | (with_reducible refine Kd.C_drewN ?_ _) | (with_reducible refine Kd.C_drew ?_))); (case side2 => exact (Kd.R_reads' HO_6.out).2.1); rintro e w33 ⟨rfl, hb⟩; have n0_ := Aside0.mk (Kd.R_below (by (with_reducible repeat (first | apply Kd.R_alloc | apply Kd.R_drewN | apply Kd.R_drew)); exact HO_3.out) hb); have n1_ := Aside0.mk (Kd.S_below (by (with_reducible repeat (first | apply Kd.S_alloc | apply Kd.S_drewN | apply Kd.S_drew)); exact HO_4.out) hb); have n2_ := Aside0.mk (Kd.R_below (by (with_reducible repeat (first | apply Kd.R_alloc | apply Kd.R_drewN | apply Kd.R_drew)); exact HO_6.out) hb); have n3_ := Aside0.mk (Kd.R_below (by (with_reducible repeat (first | apply Kd.R_alloc | apply Kd.R_drewN | apply Kd.R_drew)); exact HO_28.out) hb); have n4_ := Aside0.mk (below_step (by repeat (first | (with_reducible first | exact HB.out | apply below_alloc | apply pw_below_drewN | apply below_drew1) | exact HB.out)) hb); clear HO_3; clear HO_4; clear HO_6; clear HO_28; clear HB; have HO_3 := n0_; have HO_4 := n1_; have HO_6 := n2_; have HO_28 := n3_; have HB := n4_; clear n0_ n1_ n2_ n3_ n4_; (try clear hb); (try clear hb2); (try clear hk); (try clear hi)))
                        go_meet
                        case rel => exact ⟨_, (!t261), (by first | rfl | (simp; done) | (simp [*]; done)), H', ⟨by have := HJ1.out; have := HK2.out; have := HK3.out; first | omega | exact Nat.le_refl _⟩, ⟨by (with_reducible repeat (first | apply Kd.R_alloc | apply Kd.R_drewN | apply Kd.R_drew)); exact HO_3.out⟩, ⟨by (with_reducible repeat (first | apply Kd.S_alloc | apply Kd.S_drewN | apply Kd.S_drew)); exact Kd.S_mono HO_4.out (fun _ hk => ⟨hk.1, hk.2.1⟩)⟩, ⟨by (with_reducible repeat (first | apply Kd.R_alloc | apply Kd.R_drewN | apply Kd.R_drew)); exact Kd.R_mono HO_6.out (fun _ hk => hk.1)⟩, ⟨by repeat (first | (with_reducible first | exact HB.out | apply below_alloc | apply pw_below_drewN | apply below_drew1) | exact HB.out)⟩⟩
                    case rest =>
                      clear HC25
                      try clear c1
                      try clear c2
                      try clear p2
                      try clear q2
                      try clear hx2
                      try clear c3
                      try clear c4
                      try clear c6
                      try clear p6
                      try clear c7
                      try clear c14
                      try clear c14b0
                      try clear c17
                      try clear c17b0
                      try clear c18
                      try clear c18b0
                      try clear c19
                      try clear c19b0
                      try clear c20
                      try clear c20b0
                      try clear c22
                      try clear c22b0
                      try clear c22b1
                      try clear c23
                      try clear p25
                      try clear q25
                      try clear hx25
                      try clear c27
                      try clear c31
                      try clear hx256_0
                      try clear p2
                      try clear p256
                      try clear p6
                      try clear q256
                      obtain ⟨kq, x52_24, rfl, HA, HJ24, HO_3, HO_4, HO_6, HB⟩ := hcut
                      cases kq with
                      | zero => exact absurd HA.out (by simp [impl_MeldsIn.j3])
                      | succ kj24 =>
                        have H := HA.out
                        clear HA
                        simp only [impl_MeldsIn.j3] at H
                        by_cases c34 : x52_24 = true
                        · subst c34
                          have H1 : (impl_MeldsIn.l0 kj24 t247 x4_2 ji9 (wrap64 (x24_2 + 1))) = some r := by rw [if_pos rfl] at H; exact H
                          clear H
                          have H := H1
                          clear H1
                          have H' := Aside0.mk H
                          clear H
                          go_wp2
                          go_roundg kj24
                          case measure => have := HJ1.out; have := HK2.out; have := HK3.out; have := HJ24.out; omega
                          case rel => exact ⟨(x4_2), (wrap64 (x24_2 + 1)), (by first | rfl | (simp; done) | (simp [*]; done)), H', ⟨by have := HJ1.out; have := HK2.out; have := HK3.out; have := HJ24.out; omega⟩, ⟨by (with_reducible repeat (first | apply Kd.R_alloc | apply Kd.R_drewN | apply Kd.R_drew)); exact Kd.R_mono HO_3.out (fun _ hk => trivial)⟩, ⟨by (with_reducible repeat (first | apply Kd.S_alloc | apply Kd.S_drewN | apply Kd.S_drew)); exact Kd.S_mono HO_4.out (fun _ hk => hk.1)⟩, ⟨by repeat (first | (with_reducible first | exact HB.out | apply below_alloc | apply pw_below_drewN | apply below_drew1) | exact HB.out)⟩⟩
                        · replace c34 := Bool.eq_false_iff.mpr c34
                          subst c34
                          have H1 : (impl_MeldsIn.l2 kj24 t247 x4_2 x6_3 (x4_2.length : Int) ji9 x24_2) = some r := by rw [if_neg (show ¬ (false = true) by decide)] at H; exact H
                          clear H
                          have H := H1
                          clear H1
                          have H' := Aside0.mk H
                          clear H
                          obtain ⟨Ao35, co35, eo35⟩ := Kd.S_slice HO_4.out
                          subst eo35
                          go_wp2
                          go_loopg [9] kj24 (fun kq v9 w' => ∃ (x9_5 : Int), v9 = .int .i64 x9_5 ∧ Aside0 (impl_MeldsIn.l2 kq t247 x4_2 x6_3 x9_5 ji9 x24_2 = some r) ∧ Aside0 (kq ≤ kj24) ∧ Aside0 (Kd.R (Kd.int .i64) 3 w' w.heap.size (fun k_ => some k_ ≠ (u6 : Value).ownBlock) (.slice Ao13 t247.length co13) t247) ∧ Aside0 (Kd.S (Kd.slice 3 (Kd.int .i64)) 24 w' w.heap.size (fun k_ => some k_ ≠ ((.slice Ao13 t247.length co13) : Value).ownBlock ∧ some k_ ≠ (u6 : Value).ownBlock) (.slice Ao35 x4_2.length co35) x4_2) ∧ Aside0 (Kd.R (Kd.int .i64) 3 w' w.heap.size (fun k_ => some k_ ≠ ((.slice Ao13 t247.length co13) : Value).ownBlock) u6 x6_3) ∧ Aside0 (Below w.heap.size w w'))
                          case atStart => exact ⟨((x4_2.length : Int)), (by first | rfl | (simp; done) | (simp [*]; done)), H', ⟨Nat.le_refl _⟩, ⟨by (with_reducible repeat (first | apply Kd.R_alloc | apply Kd.R_drewN | apply Kd.R_drew)); exact HO_3.out⟩, ⟨by (with_reducible repeat (first | apply Kd.S_alloc | apply Kd.S_drewN | apply Kd.S_drew)); exact HO_4.out⟩, ⟨by (with_reducible repeat (first | apply Kd.R_alloc | apply Kd.R_drewN | apply Kd.R_drew)); exact HO_6.out⟩, ⟨by repeat (first | (with_reducible first | exact HB.out | apply below_alloc | apply pw_below_drewN | apply below_drew1) | exact HB.out)⟩⟩
                          case round =>
                            clear H'
                            try clear c1
                            try clear c2
                            try clear p2
                            try clear q2
                            try clear hx2
                            try clear c3
                            try clear c4
                            try clear c6
                            try clear p6
                            try clear c7
                            try clear c14
                            try clear c14b0
                            try clear c17
                            try clear c17b0
                            try clear c18
                            try clear c18b0
                            try clear c19
                            try clear c19b0
                            try clear c20
                            try clear c20b0
                            try clear c22
                            try clear c22b0
                            try clear c22b1
                            try clear c23
                            try clear p25
                            try clear q25
                            try clear hx25
                            try clear c27
                            try clear c31
                            try clear c34
                            try clear hx256_0
                            try clear p2
                            try clear p25
                            try clear p256
                            try clear p6
                            try clear q2
                            try clear q25
                            try clear q256
                            obtain ⟨x9_5, rfl, HA, HK5, HO_3, HO_4, HO_6, HB⟩ := hrel
                            cases gk with
                            | zero => exact absurd HA.out (by simp [impl_MeldsIn.l2])
                            | succ k5 =>
                              have H := HA.out
                              clear HA
                              simp only [impl_MeldsIn.l2] at H
                              by_cases c36 : x9_5 > 0
                              · rw [if_pos c36] at H
                                have c36b0 : decide (0 < x9_5) = true := decide_eq_true c36
                                clear c36
                                obtain ⟨ji37, hji37⟩ : ∃ j_ : Int, (wrap64 (x9_5 - 1)) = j_ := ⟨_, rfl⟩
                                replace H : (if 0 ≤ (ji37) then (if (ji37) < (x4_2.length : Int) then ((impl_isBefore.f k5 x6_3 (rd_L2 x4_2 (ji37))).bind fun t263 => (if t263 = true then (impl_MeldsIn.l2 k5 t247 x4_2 x6_3 ji37 ji9 x24_2) else (if x4_2.length < 5864062014805 then ((some (x4_2 ++ [[]] : List (List Int))).bind fun y264 => (if 0 ≤ x9_5 then (if x9_5 < (y264.length : Int) then (impl_MeldsIn.l0 k5 t247 ((Go.Proofs.Ytecjbogconeilaa.Arr.shifted y264 (x9_5 : Int).toNat).set (x9_5 : Int).toNat x6_3) ji9 (wrap64 (x24_2 + 1))) else (none)) else (none))) else (none)))) else (none)) else (none)) = some r := by first | (rw [hji37] at H; exact H) | (simp only [hji37] at H ⊢; exact H)
                                have hji37w : (IntKind.i64.wrap (x9_5 - 1)) = ji37 := (i64_w _).trans hji37
                                by_cases c38 : 0 ≤ (ji37)
                                · rw [if_pos c38] at H
                                  have c38b0 : decide (0 ≤ (ji37)) = true := decide_eq_true c38
                                  clear c38
                                  by_cases c39 : (ji37) < (x4_2.length : Int)
                                  · rw [if_pos c39] at H
                                    have c39b0 : decide ((ji37) < (x4_2.length : Int)) = true := decide_eq_true c39
                                    clear c39
                                    replace H := Option.bind_eq_some_iff.mp H
                                    obtain ⟨t263, A400, H⟩ := H
                                    replace H : (if t263 = true then (impl_MeldsIn.l2 k5 t247 x4_2 x6_3 ji37 ji9 x24_2) else (if x4_2.length < 5864062014805 then ((some (x4_2 ++ [[]] : List (List Int))).bind fun y264 => (if 0 ≤ x9_5 then (if x9_5 < (y264.length : Int) then (impl_MeldsIn.l0 k5 t247 ((Go.Proofs.Ytecjbogconeilaa.Arr.shifted y264 (x9_5 : Int).toNat).set (x9_5 : Int).toNat x6_3) ji9 (wrap64 (x24_2 + 1))) else (none)) else (none))) else (none))) = some r := H
                                    have A40 := Aside0.mk A400
                                    clear A400
                                    by_cases c41 : t263 = true
                                    · subst c41
                                      have H1 : (impl_MeldsIn.l2 k5 t247 x4_2 x6_3 ji37 ji9 x24_2) = some r := by rw [if_pos rfl] at H; exact H
                                      clear H
                                      have H := H1
                                      clear H1
                                      have H' := Aside0.mk H
                                      clear H
                                      have p262 : 0 ≤ ((ji37) : Int) := of_decide_eq_true (by first | (with_reducible assumption) | assumption)
                                      have q262 : (ji37) < (x4_2.length : Int) := of_decide_eq_true (by first | (with_reducible assumption) | assumption)
                                      obtain ⟨ad262, A262_0, c262_0, e262, hx262_0, hl262_0, hi262_0⟩ := at_L2 (Kd.S_reads' HO_4.out).2.2 (ji37) p262 q262
                                      cases e262
                                      obtain ⟨ce262, hce262, hMe262, hcc262⟩ := Kd.S_get HO_4.out [] (ji37) p262 (by first | exact q262 | exact of_decide_eq_true (by first | (with_reducible assumption) | assumption) | (have e_ := (Kd.S_reads' HO_4.out).1; omega))
                                      obtain ⟨ve262_0, rfl, ge262_0⟩ := hMe262
                                      have hv262_0 := hcc262 0 _ rfl
                                      rw [Nat.add_zero, show ((Kd.slice 3 (Kd.int .i64))).sz = 1 from rfl, Nat.mul_one] at hv262_0
                                      replace hv262_0 := Option.some.inj (hv262_0.symm.trans hx262_0)
                                      rw [hv262_0] at ge262_0
                                      have HL262_0 := Aside0.mk (show Kd.R (Kd.int .i64) 3 _ _ _ _ (rd_L2 x4_2 (ji37)) from ge262_0)
                                      clear hv262_0 ge262_0
                                      clear hcc262 hce262
                                      have HR262_0 := Aside0.mk hi262_0
                                      have HC262_0 := Aside0.mk hl262_0
                                      clear hi262_0 hl262_0
                                      replace p262 := eq_true p262
                                      replace q262 := eq_true q262
                                      obtain ⟨Ao42, co42, eo42⟩ := Kd.R_slice HO_6.out
                                      subst eo42
                                      go_wp2_with (first | (go_at_call 110; (with_reducible refine (impl_isBefore.calls k5 _ _ x6_3 _ _ (rd_L2 x4_2 (ji37)) true _ ?side1 ?side2 ?side3 ?side4 A40.out).mono ?_); (case side1 => repeat (first | exact (Kd.R_reads' HO_6.out).2.2 | (with_reducible refine Kd.C_alloc ?_ _) | (with_reducible refine Kd.C_drewN ?_ _) | (with_reducible refine Kd.C_drew ?_))); (case side2 => exact (Kd.R_reads' HO_6.out).2.1); (case side3 => repeat (first | exact (by repeat (first | (with_reducible exact HR262_0.out) | (with_reducible refine Kd.C_alloc ?_ _) | (with_reducible refine Kd.C_drewN ?_ _) | (with_reducible refine Kd.C_drew ?_) | exact HR262_0.out)) | (with_reducible refine Kd.C_alloc ?_ _) | (with_reducible refine Kd.C_drewN ?_ _) | (with_reducible refine Kd.C_drew ?_))); (case side4 => exact HC262_0.out); rintro e w' ⟨rfl, ⟨nd, rfl⟩⟩))
                                      go_roundg k5
                                      case measure => have := HJ1.out; have := HK2.out; have := HK3.out; have := HJ24.out; have := HK5.out; omega
                                      case rel => exact ⟨(ji37), (by first | rfl | (simp; done) | (simp only [← hji37] <;> (first | rfl | simp)) | (simp [*]; done)), H', ⟨by have := HJ1.out; have := HK2.out; have := HK3.out; have := HJ24.out; have := HK5.out; omega⟩, ⟨by (with_reducible repeat (first | apply Kd.R_alloc | apply Kd.R_drewN | apply Kd.R_drew)); exact HO_3.out⟩, ⟨by (with_reducible repeat (first | apply Kd.S_alloc | apply Kd.S_drewN | apply Kd.S_drew)); exact HO_4.out⟩, ⟨by (with_reducible repeat (first | apply Kd.R_alloc | apply Kd.R_drewN | apply Kd.R_drew)); exact HO_6.out⟩, ⟨by repeat (first | (with_reducible first | exact HB.out | apply below_alloc | apply pw_below_drewN | apply below_drew1) | exact HB.out)⟩⟩
                                    · replace c41 := Bool.eq_false_iff.mpr c41
                                      subst c41
                                      have H1 : (if x4_2.length < 5864062014805 then ((some (x4_2 ++ [[]] : List (List Int))).bind fun y264 => (if 0 ≤ x9_5 then (if x9_5 < (y264.length : Int) then (impl_MeldsIn.l0 k5 t247 ((Go.Proofs.Ytecjbogconeilaa.Arr.shifted y264 (x9_5 : Int).toNat).set (x9_5 : Int).toNat x6_3) ji9 (wrap64 (x24_2 + 1))) else (none)) else (none))) else (none)) = some r := by rw [if_neg (show ¬ (false = true) by decide)] at H; exact H
                                      clear H
                                      have H := H1
                                      clear H1
                                      by_cases c43 : x4_2.length < 5864062014805
                                      · rw [if_pos c43] at H
                                        have LMc43 := Aside0.mk c43
                                        clear c43
                                        obtain ⟨y264, hy264⟩ : ∃ y_ : List (List Int), y_ = (x4_2 ++ [[]]) := ⟨_, rfl⟩
                                        replace H : (if 0 ≤ x9_5 then (if x9_5 < (y264.length : Int) then (impl_MeldsIn.l0 k5 t247 ((Go.Proofs.Ytecjbogconeilaa.Arr.shifted y264 (x9_5 : Int).toNat).set (x9_5 : Int).toNat x6_3) ji9 (wrap64 (x24_2 + 1))) else (none)) else (none)) = some r := by rw [hy264]; exact H
                                        have Ny264 := Aside0.mk hy264
                                        clear hy264
                                        by_cases c51 : 0 ≤ x9_5
                                        · rw [if_pos c51] at H
                                          have c51b0 : decide (0 ≤ x9_5) = true := decide_eq_true c51
                                          clear c51
                                          by_cases c52 : x9_5 < (y264.length : Int)
                                          · rw [if_pos c52] at H
                                            have c52b0 : decide (x9_5 < (y264.length : Int)) = true := decide_eq_true c52
                                            clear c52
                                            obtain ⟨y270, hy270⟩ : ∃ y_ : List (List Int), y_ = ((Go.Proofs.Ytecjbogconeilaa.Arr.shifted y264 (x9_5 : Int).toNat).set (x9_5 : Int).toNat x6_3) := ⟨_, rfl⟩
                                            replace H : (impl_MeldsIn.l0 k5 t247 y270 ji9 (wrap64 (x24_2 + 1))) = some r := by rw [hy270]; exact H
                                            have Ny270 := Aside0.mk hy270
                                            clear hy270
                                            have H' := Aside0.mk H
                                            clear H
                                            have p262 : 0 ≤ ((ji37) : Int) := of_decide_eq_true (by first | (with_reducible assumption) | assumption)
                                            have q262 : (ji37) < (x4_2.length : Int) := of_decide_eq_true (by first | (with_reducible assumption) | assumption)
                                            obtain ⟨ad262, A262_0, c262_0, e262, hx262_0, hl262_0, hi262_0⟩ := at_L2 (Kd.S_reads' HO_4.out).2.2 (ji37) p262 q262
                                            cases e262
                                            obtain ⟨ce262, hce262, hMe262, hcc262⟩ := Kd.S_get HO_4.out [] (ji37) p262 (by first | exact q262 | exact of_decide_eq_true (by first | (with_reducible assumption) | assumption) | (have e_ := (Kd.S_reads' HO_4.out).1; omega))
                                            obtain ⟨ve262_0, rfl, ge262_0⟩ := hMe262
                                            have hv262_0 := hcc262 0 _ rfl
                                            rw [Nat.add_zero, show ((Kd.slice 3 (Kd.int .i64))).sz = 1 from rfl, Nat.mul_one] at hv262_0
                                            replace hv262_0 := Option.some.inj (hv262_0.symm.trans hx262_0)
                                            rw [hv262_0] at ge262_0
                                            clear hv262_0 ge262_0
                                            clear hcc262 hce262
                                            have HR262_0 := Aside0.mk hi262_0
                                            have HC262_0 := Aside0.mk hl262_0
                                            clear hi262_0 hl262_0
                                            replace p262 := eq_true p262
                                            replace q262 := eq_true q262
                                            obtain ⟨Ao44, co44, eo44⟩ := Kd.R_slice HO_6.out
                                            subst eo44
                                            go_wp2_with (first | (go_at_call 110; (with_reducible refine (impl_isBefore.calls k5 _ _ x6_3 _ _ (rd_L2 x4_2 (ji37)) false _ ?side1 ?side2 ?side3 ?side4 A40.out).mono ?_); (case side1 => repeat (first | exact (Kd.R_reads' HO_6.out).2.2 | (with_reducible refine Kd.C_alloc ?_ _) | (with_reducible refine Kd.C_drewN ?_ _) | (with_reducible refine Kd.C_drew ?_))); (case side2 => exact (Kd.R_reads' HO_6.out).2.1); (case side3 => repeat (first | exact (by repeat (first | (with_reducible exact HR262_0.out) | (with_reducible refine Kd.C_alloc ?_ _) | (with_reducible refine Kd.C_drewN ?_ _) | (with_reducible refine Kd.C_drew ?_) | exact HR262_0.out)) | (with_reducible refine Kd.C_alloc ?_ _) | (with_reducible refine Kd.C_drewN ?_ _) | (with_reducible refine Kd.C_drew ?_))); (case side4 => exact HC262_0.out); rintro e w' ⟨rfl, ⟨nd, rfl⟩⟩) | ((with_reducible refine gate_builtin (b := .append) (xs := #[.tmp 68, .tmp 69]) rfl ?_); (try (refine gate_guard (by rfl) ?_; dsimp only)); at_builtin; refine Kd.S_append (Kd.slice 3 (Kd.int .i64)) (w0 := w) w.heap.size rfl (.tmp 68) (.tmp 69) 32 24 (.slice none 0 0) 24 rfl Try.underlying32 info24 rfl (by decide) (by omega) (.slice (some ad262) x4_2.length co35) x4_2 ([] : List Int) [.slice none 0 0] (fun k_ => some k_ ≠ (.slice Ao13 t247.length co13 : Value).ownBlock ∧ some k_ ≠ (.slice Ao44 x6_3.length co44 : Value).ownBlock) (fun _ => False) rfl rfl ?aP (fun _ hk => hk.elim) ?aF ?aO ?aB ?aS ?aL ?_; (case aP => exact ⟨_, rfl, Kd.R_nil _ _ _ _ _⟩); (case aB => exact (by repeat (first | (with_reducible first | exact HB.out | apply below_alloc | apply pw_below_drewN | apply below_drew1) | exact HB.out))); (case aF => exact (fun k_ hk => ⟨Kd.fresh' (Kd.R_lt (by (with_reducible repeat (first | apply Kd.R_alloc | apply Kd.R_drewN | apply Kd.R_drew)); exact HO_3.out)) k_ hk, Kd.fresh' (Kd.R_lt (by (with_reducible repeat (first | apply Kd.R_alloc | apply Kd.R_drewN | apply Kd.R_drew)); exact HO_6.out)) k_ hk⟩)); (case aO => exact (by (with_reducible repeat (first | apply Kd.S_alloc | apply Kd.S_drewN | apply Kd.S_drew)); exact Kd.S_mono HO_4.out (fun k_ hk => ⟨hk, fun e_ => e_⟩))); (case aS => exact (below_size (by repeat (first | (with_reducible first | exact HB.out | apply below_alloc | apply pw_below_drewN | apply below_drew1) | exact HB.out)))); (case aL => have := LMc43.out; omega); intro v265 w45 ho hb hg hat; rw [← Ny264.out] at ho; have n0_ := Aside0.mk (Kd.R_over' (by (with_reducible repeat (first | apply Kd.R_alloc | apply Kd.R_drewN | apply Kd.R_drew)); exact HO_3.out) (Kd.S_typed (by (with_reducible repeat (first | apply Kd.S_alloc | apply Kd.S_drewN | apply Kd.S_drew)); exact HO_4.out)) (by decide) hg); have n1_ := Aside0.mk (Kd.R_over' (by (with_reducible repeat (first | apply Kd.R_alloc | apply Kd.R_drewN | apply Kd.R_drew)); exact HO_6.out) (Kd.S_typed (by (with_reducible repeat (first | apply Kd.S_alloc | apply Kd.S_drewN | apply Kd.S_drew)); exact HO_4.out)) (by decide) hg); have n2_ := Aside0.mk hb; have n3_ := Aside0.mk ho; clear HO_3; clear HO_4; clear HO_6; clear HB; have HO_3 := n0_; have HO_6 := n1_; have HB := n2_; have HO266 := n3_; clear n0_ n1_ n2_ n3_; clear ho hb hg hat; have p16 : 0 ≤ (x9_5 : Int) := of_decide_eq_true (by first | (with_reducible assumption) | assumption); have q16 : (x9_5 : Int) < ((y264.length : Int) : Int) := of_decide_eq_true (by first | (with_reducible assumption) | assumption); obtain ⟨go16, co16, eo16, gb16, gl16, cl16, HG16⟩ := Kd.S_form HO266.out (by omega); (first | cases eo16 | (injection eo16 with ea_ en_ ec_; (first | subst ea_ | (injection ea_ with ea_; subst ea_)); subst ec_; clear en_)); have GB16 := Aside0.mk gb16; have GG16 := Aside0.mk HG16; clear gb16 gl16 HG16))
                                            have h0_ : 0 ≤ x9_5 := of_decide_eq_true (by first | (with_reducible assumption) | assumption)
                                            have h1_ : x9_5 < (y264.length : Int) := of_decide_eq_true (by first | (with_reducible assumption) | assumption)
                                            obtain ⟨kn, hkn⟩ := Int.eq_ofNat_of_zero_le h0_
                                            have hkl : kn < y264.length := by omega
                                            obtain ⟨hn_, hc_, hC_⟩ := Kd.S_reads' HO266.out
                                            obtain ⟨i0_, hi0_, _, hsz_, _⟩ := info_parts info24
                                            obtain ⟨dp_, hcut1, hdp_⟩ := Go.Proofs.Ytecjbogconeilaa.Arr.cut_from (P := Try.prog) 32 24 Try.underlying32 hi0_ hsz_ go16 y264.length co16 (kn + 1) (by omega) hc_
                                            obtain ⟨sp_, hcut2, hsp_⟩ := Go.Proofs.Ytecjbogconeilaa.Arr.cut_from (P := Try.prog) 32 24 Try.underlying32 hi0_ hsz_ go16 y264.length co16 kn (by omega) hc_
                                            have hcut1' : ∀ W : World, (Instr.slice 32 (.slice (some ⟨go16, 0, none⟩) y264.length co16) (some (.int .i64 (x9_5 + 1))) none none).run Try.prog W = .ok (.slice dp_ (y264.length - (kn + 1)) (co16 - (kn + 1))) W := by rw [hkn]; exact hcut1
                                            have hcut2' : ∀ W : World, (Instr.slice 32 (.slice (some ⟨go16, 0, none⟩) y264.length co16) (some (.int .i64 x9_5)) none none).run Try.prog W = .ok (.slice sp_ (y264.length - kn) (co16 - kn)) W := by rw [hkn]; exact hcut2
                                            have hw_ : IntKind.i64.wrap (x9_5 + 1) = x9_5 + 1 := by have hm_ := Kd.C_max hC_; exact (i64_w _).trans (by unfold wrap64; omega)
                                            obtain ⟨f_, us_, hul_, hR_, hM_⟩ := Go.Proofs.Ytecjbogconeilaa.Arr.S_open HO266.out
                                            obtain ⟨w18, hrun_, HR_, hb_, hg_⟩ := Go.Proofs.Ytecjbogconeilaa.Arr.run_shift_of (W := w45.drew) (w0 := w) (B := w.heap.size) (t := 32) Try.underlying32 (by rw [hi0_]; simp [hsz_]) (Kd.R_drew hR_) (below_drew1 HB.out) hkl dp_ sp_ (co16 - (kn + 1)) (co16 - kn) hdp_ (hsp_ hkl)
                                            have hM18_ := fun (j : Nat) (x : List Int) (u : Go.Proofs.Ytecjbogconeilaa.Arr.Cell) (hx : y264[j]? = some x) (hu : us_[j]? = some u) => Kd.R_grown (Kd.R_drew (hM_ j x u hx hu)) hg_ (fun q hq => hq.1.2)
                                            have HO3_ := Aside0.mk (Kd.R_over' (v := (.slice (some ⟨go16, 0, none⟩) y264.length co16)) (Kd.R_drew HO_3.out) (Kd.S_typed (Kd.S_drew HO266.out)) (by decide) hg_)
                                            have HO6_ := Aside0.mk (Kd.R_over' (v := (.slice (some ⟨go16, 0, none⟩) y264.length co16)) (Kd.R_drew HO_6.out) (Kd.S_typed (Kd.S_drew HO266.out)) (by decide) hg_)
                                            have hkt : x9_5.toNat = kn := by omega
                                            rw [← hkt] at HR_
                                            have HUL := Aside0.mk hul_
                                            have HM18 := Aside0.mk hM18_
                                            have HKL := Aside0.mk (show x9_5.toNat < y264.length by omega)
                                            have HOs := Aside0.mk HR_
                                            have HBs := Aside0.mk hb_
                                            have hrun := Aside0.mk hrun_
                                            clear HO_3 HO_6
                                            have HO_3 := HO3_
                                            have HO_6 := HO6_
                                            clear HO3_ HO6_
                                            clear hcut1 hcut2 hdp_ hsp_ hi0_ hsz_ hkn hkl hn_ hc_ hC_ hul_ hR_ hM_ hM18_ hrun_ HR_ hb_ hg_ hkt h0_ h1_
                                            go_region_law (refine Go.Proofs.Ytecjbogconeilaa.Arr.step_copy rfl (.tmp 74) (.tmp 77) 32 32 rfl _ _ (by simp [Act.eval, Act.put]) (by simp [Act.eval, Act.put]) (hrun.out _) ?_)
                                            obtain ⟨hx_0, hf_0⟩ := Kd.R_celln (⟨.slice none 0 0, rfl⟩ : Go.Proofs.Ytecjbogconeilaa.Arr.Cell) HOs.out (x9_5 : Int) (of_decide_eq_true (by first | (with_reducible assumption) | assumption)) (of_decide_eq_true (by first | (with_reducible assumption) | assumption))
                                            have HP18 := Aside0.mk (Go.Proofs.Ytecjbogconeilaa.Arr.S_put_shifted (u6 := (.slice Ao44 x6_3.length co44 : Value)) (ok := fun k_ => some k_ ≠ (.slice Ao13 t247.length co13 : Value).ownBlock) rfl HUL.out HOs.out HM18.out HKL.out (Kd.R_tight rfl HO_6.out) (fun q hq => ⟨HO_6.out.1 q hq.symm, fun e_ => by subst e_; obtain ⟨cells_, hc_⟩ := Kd.R_typed HOs.out _ rfl; exact Kd.R_ne HO_6.out hc_ (by decide) hq⟩) (fun q hq => hq))
                                            clear HB
                                            have HB := HBs
                                            clear HO266
                                            have HTY := Aside0.mk (Kd.R_typed HOs.out)
                                            clear HOs HBs hrun HM18 HUL HKL
                                            go_wp2_with (first | ((with_reducible refine gate_store (t := 24) (p := 82) rfl ?_); refine store_event (t := 24) (p := 82) (v := ?vo_w19) (w1 := (w18.setCell ⟨go16, (x9_5 : Int).toNat, none⟩ (.slice Ao44 x6_3.length co44 : Value))) ?hg ?ho ?hn ?hr ?_; (case ho => rfl); (case hg => rfl); (case hn => rfl); (case hr => first | (go_simp; done) | (go_simp; rfl)); intro w19 hw; have hg : w18.grownBy w19 (some go16) := (by rw [hw]; exact HP18.out.2); have hp_ : Kd.S (Kd.slice 3 (Kd.int .i64)) 24 w19 w.heap.size (fun k_ => some k_ ≠ (.slice Ao13 t247.length co13 : Value).ownBlock) (.slice (some ⟨go16, 0, none⟩) y264.length co16) y270 := (by rw [hw, Ny270.out]; exact HP18.out.1); clear HP18; have n0_ := Aside0.mk hp_; have n1_ := Aside0.mk ((by rw [hw]; exact below_set (HB.out) GB16.out : Below w.heap.size w w19)); have n2_ := Aside0.mk (Kd.R_over' (v := (.slice (some ⟨go16, 0, none⟩) y264.length co16)) HO_3.out HTY.out (by decide) hg); clear HB; clear HO_3; clear HO_6; clear HTY; have HO266 := n0_; have HB := n1_; have HO_3 := n2_; clear n0_ n1_ n2_; clear hg hw hp_))
                                            go_roundg k5
                                            case measure => have := HJ1.out; have := HK2.out; have := HK3.out; have := HJ24.out; have := HK5.out; omega
                                            case rel => exact ⟨(y270), (wrap64 (x24_2 + 1)), (by first | rfl | (simp; done) | (simp [*]; done)), H', ⟨by have := HJ1.out; have := HK2.out; have := HK3.out; have := HJ24.out; have := HK5.out; omega⟩, ⟨by (with_reducible repeat (first | apply Kd.R_alloc | apply Kd.R_drewN | apply Kd.R_drew)); exact Kd.R_mono HO_3.out (fun _ hk => trivial)⟩, ⟨by (with_reducible repeat (first | apply Kd.S_alloc | apply Kd.S_drewN | apply Kd.S_drew)); exact HO266.out⟩, ⟨by repeat (first | (with_reducible first | exact HB.out | apply below_alloc | apply pw_below_drewN | apply below_drew1) | exact HB.out)⟩⟩
                                          · rw [if_neg c52] at H
                                            exact absurd H (by simp)
                                        · rw [if_neg c51] at H
                                          exact absurd H (by simp)
                                      · rw [if_neg c43] at H
                                        exact absurd H (by simp)
                                  · rw [if_neg c39] at H
                                    exact absurd H (by simp)
                                · rw [if_neg c38] at H
                                  exact absurd H (by simp)
                              · rw [if_neg c36] at H
                                have c36b0 : decide (0 < x9_5) = false := decide_eq_false c36
                                clear c36
                                by_cases c46 : x4_2.length < 5864062014805
                                · rw [if_pos c46] at H
                                  have LMc46 := Aside0.mk c46
                                  clear c46
                                  obtain ⟨y267, hy267⟩ : ∃ y_ : List (List Int), y_ = (x4_2 ++ [[]]) := ⟨_, rfl⟩
                                  replace H : (if 0 ≤ x9_5 then (if x9_5 < (y267.length : Int) then (impl_MeldsIn.l0 k5 t247 ((Go.Proofs.Ytecjbogconeilaa.Arr.shifted y267 (x9_5 : Int).toNat).set (x9_5 : Int).toNat x6_3) ji9 (wrap64 (x24_2 + 1))) else (none)) else (none)) = some r := by rw [hy267]; exact H
                                  have Ny267 := Aside0.mk hy267
                                  clear hy267
                                  by_cases c51 : 0 ≤ x9_5
                                  · rw [if_pos c51] at H
                                    have c51b0 : decide (0 ≤ x9_5) = true := decide_eq_true c51
                                    clear c51
                                    by_cases c52 : x9_5 < (y267.length : Int)
                                    · rw [if_pos c52] at H
                                      have c52b0 : decide (x9_5 < (y267.length : Int)) = true := decide_eq_true c52
                                      clear c52
                                      obtain ⟨y270, hy270⟩ : ∃ y_ : List (List Int), y_ = ((Go.Proofs.Ytecjbogconeilaa.Arr.shifted y267 (x9_5 : Int).toNat).set (x9_5 : Int).toNat x6_3) := ⟨_, rfl⟩
                                      replace H : (impl_MeldsIn.l0 k5 t247 y270 ji9 (wrap64 (x24_2 + 1))) = some r := by rw [hy270]; exact H
                                      have Ny270 := Aside0.mk hy270
                                      clear hy270
                                      have H' := Aside0.mk H
                                      clear H
                                      obtain ⟨Ao44, co44, eo44⟩ := Kd.R_slice HO_6.out
                                      subst eo44
                                      go_wp2_with (first | ((with_reducible refine gate_builtin (b := .append) (xs := #[.tmp 68, .tmp 69]) rfl ?_); (try (refine gate_guard (by rfl) ?_; dsimp only)); at_builtin; refine Kd.S_append (Kd.slice 3 (Kd.int .i64)) (w0 := w) w.heap.size rfl (.tmp 68) (.tmp 69) 32 24 (.slice none 0 0) 24 rfl Try.underlying32 info24 rfl (by decide) (by omega) (.slice Ao35 x4_2.length co35) x4_2 ([] : List Int) [.slice none 0 0] (fun k_ => some k_ ≠ (.slice Ao13 t247.length co13 : Value).ownBlock ∧ some k_ ≠ (.slice Ao44 x6_3.length co44 : Value).ownBlock) (fun _ => False) rfl rfl ?aP (fun _ hk => hk.elim) ?aF ?aO ?aB ?aS ?aL ?_; (case aP => exact ⟨_, rfl, Kd.R_nil _ _ _ _ _⟩); (case aB => exact (by repeat (first | (with_reducible first | exact HB.out | apply below_alloc | apply pw_below_drewN | apply below_drew1) | exact HB.out))); (case aF => exact (fun k_ hk => ⟨Kd.fresh' (Kd.R_lt (by (with_reducible repeat (first | apply Kd.R_alloc | apply Kd.R_drewN | apply Kd.R_drew)); exact HO_3.out)) k_ hk, Kd.fresh' (Kd.R_lt (by (with_reducible repeat (first | apply Kd.R_alloc | apply Kd.R_drewN | apply Kd.R_drew)); exact HO_6.out)) k_ hk⟩)); (case aO => exact (by (with_reducible repeat (first | apply Kd.S_alloc | apply Kd.S_drewN | apply Kd.S_drew)); exact Kd.S_mono HO_4.out (fun k_ hk => ⟨hk, fun e_ => e_⟩))); (case aS => exact (below_size (by repeat (first | (with_reducible first | exact HB.out | apply below_alloc | apply pw_below_drewN | apply below_drew1) | exact HB.out)))); (case aL => have := LMc46.out; omega); intro v265 w45 ho hb hg hat; rw [← Ny267.out] at ho; have n0_ := Aside0.mk (Kd.R_over' (by (with_reducible repeat (first | apply Kd.R_alloc | apply Kd.R_drewN | apply Kd.R_drew)); exact HO_3.out) (Kd.S_typed (by (with_reducible repeat (first | apply Kd.S_alloc | apply Kd.S_drewN | apply Kd.S_drew)); exact HO_4.out)) (by decide) hg); have n1_ := Aside0.mk (Kd.R_over' (by (with_reducible repeat (first | apply Kd.R_alloc | apply Kd.R_drewN | apply Kd.R_drew)); exact HO_6.out) (Kd.S_typed (by (with_reducible repeat (first | apply Kd.S_alloc | apply Kd.S_drewN | apply Kd.S_drew)); exact HO_4.out)) (by decide) hg); have n2_ := Aside0.mk hb; have n3_ := Aside0.mk ho; clear HO_3; clear HO_4; clear HO_6; clear HB; have HO_3 := n0_; have HO_6 := n1_; have HB := n2_; have HO266 := n3_; clear n0_ n1_ n2_ n3_; clear ho hb hg hat; have p16 : 0 ≤ (x9_5 : Int) := of_decide_eq_true (by first | (with_reducible assumption) | assumption); have q16 : (x9_5 : Int) < ((y267.length : Int) : Int) := of_decide_eq_true (by first | (with_reducible assumption) | assumption); obtain ⟨go16, co16, eo16, gb16, gl16, cl16, HG16⟩ := Kd.S_form HO266.out (by omega); (first | cases eo16 | (injection eo16 with ea_ en_ ec_; (first | subst ea_ | (injection ea_ with ea_; subst ea_)); subst ec_; clear en_)); have GB16 := Aside0.mk gb16; have GG16 := Aside0.mk HG16; clear gb16 gl16 HG16))
                                      have h0_ : 0 ≤ x9_5 := of_decide_eq_true (by first | (with_reducible assumption) | assumption)
                                      have h1_ : x9_5 < (y267.length : Int) := of_decide_eq_true (by first | (with_reducible assumption) | assumption)
                                      obtain ⟨kn, hkn⟩ := Int.eq_ofNat_of_zero_le h0_
                                      have hkl : kn < y267.length := by omega
                                      obtain ⟨hn_, hc_, hC_⟩ := Kd.S_reads' HO266.out
                                      obtain ⟨i0_, hi0_, _, hsz_, _⟩ := info_parts info24
                                      obtain ⟨dp_, hcut1, hdp_⟩ := Go.Proofs.Ytecjbogconeilaa.Arr.cut_from (P := Try.prog) 32 24 Try.underlying32 hi0_ hsz_ go16 y267.length co16 (kn + 1) (by omega) hc_
                                      obtain ⟨sp_, hcut2, hsp_⟩ := Go.Proofs.Ytecjbogconeilaa.Arr.cut_from (P := Try.prog) 32 24 Try.underlying32 hi0_ hsz_ go16 y267.length co16 kn (by omega) hc_
                                      have hcut1' : ∀ W : World, (Instr.slice 32 (.slice (some ⟨go16, 0, none⟩) y267.length co16) (some (.int .i64 (x9_5 + 1))) none none).run Try.prog W = .ok (.slice dp_ (y267.length - (kn + 1)) (co16 - (kn + 1))) W := by rw [hkn]; exact hcut1
                                      have hcut2' : ∀ W : World, (Instr.slice 32 (.slice (some ⟨go16, 0, none⟩) y267.length co16) (some (.int .i64 x9_5)) none none).run Try.prog W = .ok (.slice sp_ (y267.length - kn) (co16 - kn)) W := by rw [hkn]; exact hcut2
                                      have hw_ : IntKind.i64.wrap (x9_5 + 1) = x9_5 + 1 := by have hm_ := Kd.C_max hC_; exact (i64_w _).trans (by unfold wrap64; omega)
                                      obtain ⟨f_, us_, hul_, hR_, hM_⟩ := Go.Proofs.Ytecjbogconeilaa.Arr.S_open HO266.out
                                      obtain ⟨w18, hrun_, HR_, hb_, hg_⟩ := Go.Proofs.Ytecjbogconeilaa.Arr.run_shift_of (W := w45.drew) (w0 := w) (B := w.heap.size) (t := 32) Try.underlying32 (by rw [hi0_]; simp [hsz_]) (Kd.R_drew hR_) (below_drew1 HB.out) hkl dp_ sp_ (co16 - (kn + 1)) (co16 - kn) hdp_ (hsp_ hkl)
                                      have hM18_ := fun (j : Nat) (x : List Int) (u : Go.Proofs.Ytecjbogconeilaa.Arr.Cell) (hx : y267[j]? = some x) (hu : us_[j]? = some u) => Kd.R_grown (Kd.R_drew (hM_ j x u hx hu)) hg_ (fun q hq => hq.1.2)
                                      have HO3_ := Aside0.mk (Kd.R_over' (v := (.slice (some ⟨go16, 0, none⟩) y267.length co16)) (Kd.R_drew HO_3.out) (Kd.S_typed (Kd.S_drew HO266.out)) (by decide) hg_)
                                      have HO6_ := Aside0.mk (Kd.R_over' (v := (.slice (some ⟨go16, 0, none⟩) y267.length co16)) (Kd.R_drew HO_6.out) (Kd.S_typed (Kd.S_drew HO266.out)) (by decide) hg_)
                                      have hkt : x9_5.toNat = kn := by omega
                                      rw [← hkt] at HR_
                                      have HUL := Aside0.mk hul_
                                      have HM18 := Aside0.mk hM18_
                                      have HKL := Aside0.mk (show x9_5.toNat < y267.length by omega)
                                      have HOs := Aside0.mk HR_
                                      have HBs := Aside0.mk hb_
                                      have hrun := Aside0.mk hrun_
                                      clear HO_3 HO_6
                                      have HO_3 := HO3_
                                      have HO_6 := HO6_
                                      clear HO3_ HO6_
                                      clear hcut1 hcut2 hdp_ hsp_ hi0_ hsz_ hkn hkl hn_ hc_ hC_ hul_ hR_ hM_ hM18_ hrun_ HR_ hb_ hg_ hkt h0_ h1_
                                      go_region_law (refine Go.Proofs.Ytecjbogconeilaa.Arr.step_copy rfl (.tmp 74) (.tmp 77) 32 32 rfl _ _ (by simp [Act.eval, Act.put]) (by simp [Act.eval, Act.put]) (hrun.out _) ?_)
                                      obtain ⟨hx_0, hf_0⟩ := Kd.R_celln (⟨.slice none 0 0, rfl⟩ : Go.Proofs.Ytecjbogconeilaa.Arr.Cell) HOs.out (x9_5 : Int) (of_decide_eq_true (by first | (with_reducible assumption) | assumption)) (of_decide_eq_true (by first | (with_reducible assumption) | assumption))
                                      have HP18 := Aside0.mk (Go.Proofs.Ytecjbogconeilaa.Arr.S_put_shifted (u6 := (.slice Ao44 x6_3.length co44 : Value)) (ok := fun k_ => some k_ ≠ (.slice Ao13 t247.length co13 : Value).ownBlock) rfl HUL.out HOs.out HM18.out HKL.out (Kd.R_tight rfl HO_6.out) (fun q hq => ⟨HO_6.out.1 q hq.symm, fun e_ => by subst e_; obtain ⟨cells_, hc_⟩ := Kd.R_typed HOs.out _ rfl; exact Kd.R_ne HO_6.out hc_ (by decide) hq⟩) (fun q hq => hq))
                                      clear HB
                                      have HB := HBs
                                      clear HO266
                                      have HTY := Aside0.mk (Kd.R_typed HOs.out)
                                      clear HOs HBs hrun HM18 HUL HKL
                                      go_wp2_with (first | ((with_reducible refine gate_store (t := 24) (p := 82) rfl ?_); refine store_event (t := 24) (p := 82) (v := ?vo_w19) (w1 := (w18.setCell ⟨go16, (x9_5 : Int).toNat, none⟩ (.slice Ao44 x6_3.length co44 : Value))) ?hg ?ho ?hn ?hr ?_; (case ho => rfl); (case hg => rfl); (case hn => rfl); (case hr => first | (go_simp; done) | (go_simp; rfl)); intro w19 hw; have hg : w18.grownBy w19 (some go16) := (by rw [hw]; exact HP18.out.2); have hp_ : Kd.S (Kd.slice 3 (Kd.int .i64)) 24 w19 w.heap.size (fun k_ => some k_ ≠ (.slice Ao13 t247.length co13 : Value).ownBlock) (.slice (some ⟨go16, 0, none⟩) y267.length co16) y270 := (by rw [hw, Ny270.out]; exact HP18.out.1); clear HP18; have n0_ := Aside0.mk hp_; have n1_ := Aside0.mk ((by rw [hw]; exact below_set (HB.out) GB16.out : Below w.heap.size w w19)); have n2_ := Aside0.mk (Kd.R_over' (v := (.slice (some ⟨go16, 0, none⟩) y267.length co16)) HO_3.out HTY.out (by decide) hg); clear HB; clear HO_3; clear HO_6; clear HTY; have HO266 := n0_; have HB := n1_; have HO_3 := n2_; clear n0_ n1_ n2_; clear hg hw hp_))
                                      go_roundg k5
                                      case measure => have := HJ1.out; have := HK2.out; have := HK3.out; have := HJ24.out; have := HK5.out; omega
                                      case rel => exact ⟨(y270), (wrap64 (x24_2 + 1)), (by first | rfl | (simp; done) | (simp [*]; done)), H', ⟨by have := HJ1.out; have := HK2.out; have := HK3.out; have := HJ24.out; have := HK5.out; omega⟩, ⟨by (with_reducible repeat (first | apply Kd.R_alloc | apply Kd.R_drewN | apply Kd.R_drew)); exact Kd.R_mono HO_3.out (fun _ hk => trivial)⟩, ⟨by (with_reducible repeat (first | apply Kd.S_alloc | apply Kd.S_drewN | apply Kd.S_drew)); exact HO266.out⟩, ⟨by repeat (first | (with_reducible first | exact HB.out | apply below_alloc | apply pw_below_drewN | apply below_drew1) | exact HB.out)⟩⟩
                                    · rw [if_neg c52] at H
                                      exact absurd H (by simp)
                                  · rw [if_neg c51] at H
                                    exact absurd H (by simp)
                                · rw [if_neg c46] at H
                                  exact absurd H (by simp)
            · rw [if_neg c14] at H
              have c14b0 : decide (x24_2 < ji9) = false := decide_eq_false c14
              clear c14
              obtain rfl := Option.some.inj H
              go_wp2
              go_ret
              exact ⟨_, by first | rfl | (simp [errW_none, errW_some] <;> rfl) | (simp only [← hji9]; first | rfl | (simp [errW_none, errW_some] <;> rfl)) | (simp [*, errW_none, errW_some] <;> rfl), by (with_reducible repeat (first | apply Kd.S_alloc | apply Kd.S_drewN | apply Kd.S_drew)); exact Kd.S_mono HO_4.out (fun _ hk => trivial), by repeat (first | (with_reducible first | exact HB.out | apply below_alloc | apply pw_below_drewN | apply below_drew1) | exact HB.out)⟩

end Go.Proofs.Ytecjbogconeilaa.QFnMelds
