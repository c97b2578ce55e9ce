/- In the seat Ytgnimdlakocpjaa: what the functions compute that the law reaches, and that the machine's calls do just that; no condition beyond each contract's own. -/
import Derived.Test.YtgnimdlakocpjaaQFnExactBestFivex0
import Derived.Test.YtgnimdlakocpjaaQFnExactBestFivex6
namespace Go.Proofs.Ytgnimdlakocpjaa.QFnExactBestFive
open Go.RowKit Go.Proofs.YtgnimdlakocpjaaW.PrintWords Go.Proofs.YtgnimdlakocpjaaW.PrintLast Go.Proofs.YtgnimdlakocpjaaW.PrintMore
attribute [local go_sem] max2_int min2_int max_two min_two max_three min_three max_four min_four   -- for this text's walks alone
set_option linter.unusedVariables false
set_option linter.unusedSimpArgs false

/-! ### impl_Sorted: function 51 -/
mutual
def impl_Sorted.l0 : Nat → List Int → List Int → Int → Int → Option (List Int)
  | 0, _, _, _, _ => none
  | k + 1, x3, x8, x9, x10 => if x10 < x9 then (if 0 ≤ x10 then (if x10 < (x8.length : Int) then (impl_Sorted.l1 k x3 (rd x8 x10) (x3.length : Int) x8 x9 x10) else (none)) else (none)) else (some x3)
def impl_Sorted.l1 : Nat → List Int → Int → Int → List Int → Int → Int → Option (List Int)
  | 0, _, _, _, _, _, _ => none
  | k + 1, x3, x5, x6, x8, x9, x10 => if x6 > 0 then (if 0 ≤ (wrap64 (x6 - 1)) then (if (wrap64 (x6 - 1)) < (x3.length : Int) then (if (rd x3 (wrap64 (x6 - 1))) > x5 then (impl_Sorted.l1 k x3 x5 (wrap64 (x6 - 1)) x8 x9 x10) else (if x3.length < 17592186044416 then ((some (x3 ++ [0] : List Int)).bind fun y106 => (if 0 ≤ x6 then (if x6 < (y106.length : Int) then (impl_Sorted.l0 k ((Go.Proofs.Ytgnimdlakocpjaa.Arr.shifted y106 (x6 : Int).toNat).set (x6 : Int).toNat x5) x8 x9 (wrap64 (x10 + 1))) else (none)) else (none))) else (none))) else (none)) else (none)) else (if x3.length < 17592186044416 then ((some (x3 ++ [0] : List Int)).bind fun y110 => (if 0 ≤ x6 then (if x6 < (y110.length : Int) then (impl_Sorted.l0 k ((Go.Proofs.Ytgnimdlakocpjaa.Arr.shifted y110 (x6 : Int).toNat).set (x6 : Int).toNat x5) x8 x9 (wrap64 (x10 + 1))) else (none)) else (none))) else (none))
end
def impl_Sorted.f (k : Nat) (l0 : List Int) : Option (List Int) := impl_Sorted.l0 k (([] : List Int)) l0 (l0.length : Int) 0
theorem impl_Sorted.mono_l : ∀ k, (∀ y0 y1 y2 y3, LeO (impl_Sorted.l0 k y0 y1 y2 y3) (impl_Sorted.l0 (k + 1) y0 y1 y2 y3)) ∧ (∀ y0 y1 y2 y3 y4 y5, LeO (impl_Sorted.l1 k y0 y1 y2 y3 y4 y5) (impl_Sorted.l1 (k + 1) y0 y1 y2 y3 y4 y5))
  | 0 => ⟨fun _ _ _ _ r h => by simp [impl_Sorted.l0] at h, fun _ _ _ _ _ _ r h => by simp [impl_Sorted.l1] at h⟩
  | k + 1 => by
    obtain ⟨ih0, ih1⟩ := impl_Sorted.mono_l k
    refine ⟨?_, ?_⟩
    · intro y0 y1 y2 y3
      unfold impl_Sorted.l0
      repeat' first
      | (with_reducible exact ih0 _ _ _ _)
      | (with_reducible exact ih1 _ _ _ _ _ _)
      | (with_reducible exact LeO.refl _)
      | (with_reducible exact LeO.none _)
      | (with_reducible refine LeO.ite ?_ ?_)
      | (with_reducible refine LeO.bind ?_ (fun _ => ?_))
      | exact ih0 _ _ _ _
      | exact ih1 _ _ _ _ _ _
      | exact LeO.none _
      | refine LeO.ite ?_ ?_
      | refine LeO.bind ?_ (fun _ => ?_)
    · intro y0 y1 y2 y3 y4 y5
      unfold impl_Sorted.l1
      repeat' first
      | (with_reducible exact ih0 _ _ _ _)
      | (with_reducible exact ih1 _ _ _ _ _ _)
      | (with_reducible exact LeO.refl _)
      | (with_reducible exact LeO.none _)
      | (with_reducible refine LeO.ite ?_ ?_)
      | (with_reducible refine LeO.bind ?_ (fun _ => ?_))
      | exact ih0 _ _ _ _
      | exact ih1 _ _ _ _ _ _
      | exact LeO.none _
      | refine LeO.ite ?_ ?_
      | refine LeO.bind ?_ (fun _ => ?_)
theorem impl_Sorted.mono : ∀ a0 k, LeO (impl_Sorted.f k a0) (impl_Sorted.f (k + 1) a0) := by
  intro a0 k
  obtain ⟨ih0, ih1⟩ := impl_Sorted.mono_l k
  unfold impl_Sorted.f
  repeat' first
      | (with_reducible exact ih0 _ _ _ _)
      | (with_reducible exact ih1 _ _ _ _ _ _)
      | (with_reducible exact LeO.refl _)
      | (with_reducible exact LeO.none _)
      | (with_reducible refine LeO.ite ?_ ?_)
      | (with_reducible refine LeO.bind ?_ (fun _ => ?_))
      | exact ih0 _ _ _ _
      | exact ih1 _ _ _ _ _ _
      | exact LeO.none _
      | refine LeO.ite ?_ ?_
      | refine LeO.bind ?_ (fun _ => ?_)
set_option maxHeartbeats 8000000 in
set_option maxRecDepth 100000 in
theorem impl_Sorted.calls (k : Nat) (A0 : Option Addr) (c0 : Nat) (l0 : List Int) (r : List Int) (w : World) (hr0 : Kd.C (Kd.int .i64) w A0 l0.length l0) (hc0 : l0.length ≤ c0) (h : impl_Sorted.f k l0 = some r) :
    Calls Try.prog 51 #[.slice A0 l0.length c0] w fun e w' => ∃ v0_ : Value, e = .returned (v0_) ∧ Kd.R (Kd.int .i64) 3 w' w.heap.size (fun _ => True) v0_ r ∧ Below w.heap.size w w' := by
  have HR0 := Aside0.mk hr0
  have HC0 := Aside0.mk hc0
  clear hr0 hc0
  have HB := Aside0.mk (Below.refl w.heap.size w)
  have H : (impl_Sorted.l0 k (([] : List Int)) l0 (l0.length : Int) 0) = some r := h
  clear h
  obtain ⟨y101, hy101⟩ : ∃ y_ : List Int, y_ = (([] : List Int)) := ⟨_, rfl⟩
  replace H : (impl_Sorted.l0 k y101 l0 (l0.length : Int) 0) = some r := by first | (rw [hy101]; with_reducible exact H) | (have H2_ := (Option.bind_some _ _).symm.trans H; rw [hy101]; with_reducible exact H2_) | (have H2_ := (Option.bind_some _ _).symm.trans H; with_reducible exact H2_) | with_reducible exact H | (rw [hy101]; exact H) | exact H
  have Ny101 := Aside0.mk hy101
  clear hy101
  have H' := Aside0.mk H
  clear H
  go_enter Try.func51, Try.ntmps51
  go_wp2_with (first | ((with_reducible refine gate_dst (N := 7) rfl ?_); refine Kd.R_lit (Kd.int .i64) _ 3 ?hg (N := 7) ?hd (xs := ([] : List Int)) (inner := []) (ok := fun _ => True) (okp := fun _ => True) ?hr ?hp (fun _ hk => hk) trivial (Below.refl _ _) (Nat.le_refl _) (by simp) ?_; (case hd => rfl); (case hg => rfl); (case hr => first | (go_simp; done) | (go_simp; rfl)); (case hp => exact (Reps.none _ _)); intro v102 w2 ho3 hb hg_ hnew_; clear hg_ hnew_; (first | rw [← Ny101.out] at ho3 | (simp only [Int.reduceToNat] at ho3; rw [← Ny101.out] at ho3)); have n0_ := Aside0.mk (Kd.R_lower ho3 (below_size (by repeat (first | (with_reducible first | exact HB.out | apply below_alloc | apply pw_below_drewN | apply below_drew1) | exact HB.out)))); have n1_ := Aside0.mk (below_step (by repeat (first | (with_reducible first | exact HB.out | apply below_alloc | apply pw_below_drewN | apply below_drew1) | exact HB.out)) hb); clear HB; have HO103 := n0_; have HB := n1_; clear n0_ n1_; clear hb ho3))
  go_loopg [3, 10] k (fun kq v3 v10 w' => ∃ (x3_1 : List Int) (x10_1 : Int), v10 = .int .i64 x10_1 ∧ Aside0 (impl_Sorted.l0 kq x3_1 l0 (l0.length : Int) x10_1 = some r) ∧ Aside0 (kq ≤ k) ∧ Aside0 (Kd.R (Kd.int .i64) 3 w' w.heap.size (fun _ => True) v3 x3_1) ∧ Aside0 (Below w.heap.size w w'))
  case atStart => exact ⟨(y101), (0), (by first | rfl | (simp; done) | (simp [*]; done)), H', ⟨Nat.le_refl _⟩, ⟨by (with_reducible repeat (first | apply Kd.R_alloc | apply Kd.R_drewN | apply Kd.R_drew)); exact HO103.out⟩, ⟨by repeat (first | (with_reducible first | exact HB.out | apply below_alloc | apply pw_below_drewN | apply below_drew1) | exact HB.out)⟩⟩
  case round =>
    clear H'
    try clear p2
    obtain ⟨x3_1, x10_1, rfl, HA, HK1, HO_3, HB⟩ := hrel
    cases gk with
    | zero => exact absurd HA.out (by simp [impl_Sorted.l0])
    | succ k1 =>
      have H := HA.out
      clear HA
      simp only [impl_Sorted.l0] at H
      by_cases c4 : x10_1 < (l0.length : Int)
      · rw [if_pos c4] at H
        have c4b0 : decide (x10_1 < (l0.length : Int)) = true := decide_eq_true c4
        clear c4
        by_cases c5 : 0 ≤ x10_1
        · rw [if_pos c5] at H
          have c5b0 : decide (0 ≤ x10_1) = true := decide_eq_true c5
          clear c5
          by_cases c6 : x10_1 < (l0.length : Int)
          · rw [if_pos c6] at H
            have c6b0 : decide (x10_1 < (l0.length : Int)) = true := decide_eq_true c6
            clear c6
            have H' := Aside0.mk H
            clear H
            have p104 : 0 ≤ (x10_1 : Int) := of_decide_eq_true (by first | (with_reducible assumption) | assumption)
            have q104 : x10_1 < (l0.length : Int) := of_decide_eq_true (by first | (with_reducible assumption) | assumption)
            obtain ⟨ad104, e104, hx104_0⟩ := Kd.at_int HR0.out x10_1 p104 q104
            cases e104
            replace hx104_0 := (HB.out.cell (World.block_lt_of_cell? w _ hx104_0)).trans hx104_0
            replace p104 := eq_true p104
            replace q104 := eq_true q104
            obtain ⟨Ao7, co7, eo7⟩ := Kd.R_slice HO_3.out
            subst eo7
            go_wp2
            go_loopg [6] k1 (fun kq v6 w' => ∃ (x6_2 : Int), v6 = .int .i64 x6_2 ∧ Aside0 (impl_Sorted.l1 kq x3_1 (rd l0 x10_1) x6_2 l0 (l0.length : Int) x10_1 = some r) ∧ Aside0 (kq ≤ k1) ∧ Aside0 (Kd.R (Kd.int .i64) 3 w' w.heap.size (fun _ => True) (.slice Ao7 x3_1.length co7) x3_1) ∧ Aside0 (Below w.heap.size w w'))
            case atStart => exact ⟨((x3_1.length : Int)), (by first | rfl | (simp; done) | (simp [*]; done)), H', ⟨Nat.le_refl _⟩, ⟨by (with_reducible repeat (first | apply Kd.R_alloc | apply Kd.R_drewN | apply Kd.R_drew)); exact HO_3.out⟩, ⟨by repeat (first | (with_reducible first | exact HB.out | apply below_alloc | apply pw_below_drewN | apply below_drew1) | exact HB.out)⟩⟩
            case round =>
              clear H'
              try clear p1
              try clear q1
              try clear hx1
              try clear p2
              try clear c4
              try clear c4b0
              try clear c5
              try clear c5b0
              try clear c6
              try clear c6b0
              try clear hx104_0
              try clear p104
              try clear p2
              try clear q104
              obtain ⟨x6_2, rfl, HA, HK2, HO_3, HB⟩ := hrel
              cases gk with
              | zero => exact absurd HA.out (by simp [impl_Sorted.l1])
              | succ k2 =>
                have H := HA.out
                clear HA
                simp only [impl_Sorted.l1] at H
                by_cases c8 : x6_2 > 0
                · rw [if_pos c8] at H
                  have c8b0 : decide (0 < x6_2) = true := decide_eq_true c8
                  clear c8
                  obtain ⟨ji9, hji9⟩ : ∃ j_ : Int, (wrap64 (x6_2 - 1)) = j_ := ⟨_, rfl⟩
                  replace H : (if 0 ≤ (ji9) then (if (ji9) < (x3_1.length : Int) then (if (rd x3_1 (ji9)) > (rd l0 x10_1) then (impl_Sorted.l1 k2 x3_1 (rd l0 x10_1) ji9 l0 (l0.length : Int) x10_1) else (if x3_1.length < 17592186044416 then ((some (x3_1 ++ [0] : List Int)).bind fun y106 => (if 0 ≤ x6_2 then (if x6_2 < (y106.length : Int) then (impl_Sorted.l0 k2 ((Go.Proofs.Ytgnimdlakocpjaa.Arr.shifted y106 (x6_2 : Int).toNat).set (x6_2 : Int).toNat (rd l0 x10_1)) l0 (l0.length : Int) (wrap64 (x10_1 + 1))) else (none)) else (none))) else (none))) else (none)) else (none)) = some r := by first | (rw [hji9] at H; exact H) | (simp only [hji9] at H ⊢; exact H)
                  have hji9w : (IntKind.i64.wrap (x6_2 - 1)) = ji9 := (i64_w _).trans hji9
                  by_cases c10 : 0 ≤ (ji9)
                  · rw [if_pos c10] at H
                    have c10b0 : decide (0 ≤ (ji9)) = true := decide_eq_true c10
                    clear c10
                    by_cases c11 : (ji9) < (x3_1.length : Int)
                    · rw [if_pos c11] at H
                      have c11b0 : decide ((ji9) < (x3_1.length : Int)) = true := decide_eq_true c11
                      clear c11
                      by_cases c12 : (rd x3_1 (ji9)) > (rd l0 x10_1)
                      · rw [if_pos c12] at H
                        have c12b0 : decide ((rd l0 x10_1) < (rd x3_1 (ji9))) = true := decide_eq_true c12
                        clear c12
                        have H' := Aside0.mk H
                        clear H
                        have p105 : 0 ≤ ((ji9) : Int) := of_decide_eq_true (by first | (with_reducible assumption) | assumption)
                        have q105 : (ji9) < (x3_1.length : Int) := of_decide_eq_true (by first | (with_reducible assumption) | assumption)
                        obtain ⟨ad105, e105, hx105_0⟩ := Kd.at_int (Kd.R_reads' HO_3.out).2.2 (ji9) p105 q105
                        cases e105
                        replace p105 := eq_true p105
                        replace q105 := eq_true q105
                        go_wp2
                        go_roundg k2
                        case measure => have := HK1.out; have := HK2.out; omega
                        case rel => exact ⟨(ji9), (by first | rfl | (simp; done) | (simp only [← hji9] <;> (first | rfl | simp)) | (simp [*]; done)), H', ⟨by have := HK1.out; have := HK2.out; omega⟩, ⟨by (with_reducible repeat (first | apply Kd.R_alloc | apply Kd.R_drewN | apply Kd.R_drew)); exact HO_3.out⟩, ⟨by repeat (first | (with_reducible first | exact HB.out | apply below_alloc | apply pw_below_drewN | apply below_drew1) | exact HB.out)⟩⟩
                      · rw [if_neg c12] at H
                        have c12b0 : decide ((rd l0 x10_1) < (rd x3_1 (ji9))) = false := decide_eq_false c12
                        clear c12
                        by_cases c13 : x3_1.length < 17592186044416
                        · rw [if_pos c13] at H
                          have LMc13 := Aside0.mk c13
                          clear c13
                          obtain ⟨y106, hy106⟩ : ∃ y_ : List Int, y_ = (x3_1 ++ [0]) := ⟨_, rfl⟩
                          replace H : (if 0 ≤ x6_2 then (if x6_2 < (y106.length : Int) then (impl_Sorted.l0 k2 ((Go.Proofs.Ytgnimdlakocpjaa.Arr.shifted y106 (x6_2 : Int).toNat).set (x6_2 : Int).toNat (rd l0 x10_1)) l0 (l0.length : Int) (wrap64 (x10_1 + 1))) else (none)) else (none)) = some r := by first | (rw [hy106]; with_reducible exact H) | (have H2_ := (Option.bind_some _ _).symm.trans H; rw [hy106]; with_reducible exact H2_) | (have H2_ := (Option.bind_some _ _).symm.trans H; with_reducible exact H2_) | with_reducible exact H | (rw [hy106]; exact H) | exact H
                          have Ny106 := Aside0.mk hy106
                          clear hy106
                          by_cases c14 : 0 ≤ x6_2
                          · rw [if_pos c14] at H
                            have c14b0 : decide (0 ≤ x6_2) = true := decide_eq_true c14
                            clear c14
                            by_cases c15 : x6_2 < (y106.length : Int)
                            · rw [if_pos c15] at H
                              have c15b0 : decide (x6_2 < (y106.length : Int)) = true := decide_eq_true c15
                              clear c15
                              obtain ⟨y109, hy109⟩ : ∃ y_ : List Int, y_ = ((Go.Proofs.Ytgnimdlakocpjaa.Arr.shifted y106 (x6_2 : Int).toNat).set (x6_2 : Int).toNat (rd l0 x10_1)) := ⟨_, rfl⟩
                              replace H : (impl_Sorted.l0 k2 y109 l0 (l0.length : Int) (wrap64 (x10_1 + 1))) = some r := by first | (rw [hy109]; with_reducible exact H) | (have H2_ := (Option.bind_some _ _).symm.trans H; rw [hy109]; with_reducible exact H2_) | (have H2_ := (Option.bind_some _ _).symm.trans H; with_reducible exact H2_) | with_reducible exact H | (rw [hy109]; exact H) | exact H
                              have Ny109 := Aside0.mk hy109
                              clear hy109
                              have H' := Aside0.mk H
                              clear H
                              have p105 : 0 ≤ ((ji9) : Int) := of_decide_eq_true (by first | (with_reducible assumption) | assumption)
                              have q105 : (ji9) < (x3_1.length : Int) := of_decide_eq_true (by first | (with_reducible assumption) | assumption)
                              obtain ⟨ad105, e105, hx105_0⟩ := Kd.at_int (Kd.R_reads' HO_3.out).2.2 (ji9) p105 q105
                              cases e105
                              replace p105 := eq_true p105
                              replace q105 := eq_true q105
                              go_wp2_with (first | ((with_reducible refine gate_builtin (b := .append) (xs := #[.tmp 29, .tmp 30]) rfl ?_); at_builtin; refine Kd.R_append (Kd.int .i64) (w0 := w) w.heap.size rfl (.tmp 29) (.tmp 30) 24 3 (.int .i64 0) 8 rfl Try.underlying24 info3 rfl (by decide) (by omega) (.slice (some ad105) x3_1.length co7) x3_1 0 [.int .i64 0] (fun _ => True) (fun _ => False) rfl rfl ?aP (fun _ hk => hk.elim) ?aF ?aO ?aB ?aS ?aL ?_; (case aP => exact rfl); (case aB => exact (by repeat (first | (with_reducible first | exact HB.out | apply below_alloc | apply pw_below_drewN | apply below_drew1) | exact HB.out))); (case aF => exact (fun _ _ => trivial)); (case aO => exact (by (with_reducible repeat (first | apply Kd.R_alloc | apply Kd.R_drewN | apply Kd.R_drew)); exact HO_3.out)); (case aS => exact (below_size (by repeat (first | (with_reducible first | exact HB.out | apply below_alloc | apply pw_below_drewN | apply below_drew1) | exact HB.out)))); (case aL => have := LMc13.out; omega); intro v107 w17 ho hb hg hat; rw [← Ny106.out] at ho; have n0_ := Aside0.mk (hb); have n1_ := Aside0.mk (ho); clear HB; clear HO_3; have HB := n0_; have HO108 := n1_; clear n0_ n1_; clear ho hb hg hat; have p16 : 0 ≤ (x6_2 : Int) := of_decide_eq_true (by first | (with_reducible assumption) | assumption); have q16 : (x6_2 : Int) < ((y106.length : Int) : Int) := of_decide_eq_true (by first | (with_reducible assumption) | assumption); obtain ⟨go16, co16, eo16, gb16, gl16, cl16, HG16⟩ := Kd.R_form HO108.out (by omega); (first | cases eo16 | (injection eo16 with ea_ en_ ec_; (first | subst ea_ | (injection ea_ with ea_; subst ea_)); subst ec_; clear en_)); have GB16 := Aside0.mk gb16; have GG16 := Aside0.mk HG16; clear gb16 gl16 HG16))
                              have h0_ : 0 ≤ x6_2 := of_decide_eq_true (by first | (with_reducible assumption) | assumption)
                              have h1_ : x6_2 < (y106.length : Int) := of_decide_eq_true (by first | (with_reducible assumption) | assumption)
                              obtain ⟨kn, hkn⟩ := Int.eq_ofNat_of_zero_le h0_
                              have hkl : kn < y106.length := by omega
                              obtain ⟨hn_, hc_, _⟩ := Kd.R_reads' HO108.out
                              obtain ⟨i0_, hi0_, _, hsz_, _⟩ := info_parts info3
                              obtain ⟨dp_, hcut1, hdp_⟩ := Go.Proofs.Ytgnimdlakocpjaa.Arr.cut_from (P := Try.prog) 24 3 Try.underlying24 hi0_ hsz_ go16 y106.length co16 (kn + 1) (by omega) hc_
                              obtain ⟨sp_, hcut2, hsp_⟩ := Go.Proofs.Ytgnimdlakocpjaa.Arr.cut_from (P := Try.prog) 24 3 Try.underlying24 hi0_ hsz_ go16 y106.length co16 kn (by omega) hc_
                              have hcut1' : ∀ W : World, (Instr.slice 24 (.slice (some ⟨go16, 0, none⟩) y106.length co16) (some (.int .i64 (x6_2 + 1))) none none).run Try.prog W = .ok (.slice dp_ (y106.length - (kn + 1)) (co16 - (kn + 1))) W := by rw [hkn]; exact hcut1
                              have hcut2' : ∀ W : World, (Instr.slice 24 (.slice (some ⟨go16, 0, none⟩) y106.length co16) (some (.int .i64 x6_2)) none none).run Try.prog W = .ok (.slice sp_ (y106.length - kn) (co16 - kn)) W := by rw [hkn]; exact hcut2
                              have hw_ : IntKind.i64.wrap (x6_2 + 1) = x6_2 + 1 := by have hm_ := Kd.C_max (Kd.R_reads' HO108.out).2.2; exact (i64_w _).trans (by unfold wrap64; omega)
                              obtain ⟨w18, hrun_, HR_, hb_, hg_⟩ := Go.Proofs.Ytgnimdlakocpjaa.Arr.run_shift (W := w17.drew) (w0 := w) (B := w.heap.size) (t := 24) Try.underlying24 (by rw [hi0_]; simp [hsz_]) (Kd.R_drew HO108.out) (below_drew1 HB.out) hkl dp_ sp_ (co16 - (kn + 1)) (co16 - kn) hdp_ (hsp_ hkl)
                              obtain ⟨yS, hyS⟩ : ∃ yS, yS = Go.Proofs.Ytgnimdlakocpjaa.Arr.shifted y106 kn := ⟨_, rfl⟩
                              have hlS : yS.length = y106.length := by rw [hyS]; exact Go.Proofs.Ytgnimdlakocpjaa.Arr.shifted_length _ _ hkl
                              rw [← hyS] at HR_
                              have hkt : x6_2.toNat = kn := by omega
                              have HS_ := Aside0.mk (show yS = Go.Proofs.Ytgnimdlakocpjaa.Arr.shifted y106 (x6_2 : Int).toNat by rw [hkt, hyS])
                              have HL_ := Aside0.mk hlS
                              have HOs := Aside0.mk HR_
                              have HBs := Aside0.mk hb_
                              have hrun := Aside0.mk hrun_
                              skip
                              clear hcut1 hcut2 hdp_ hsp_ hi0_ hsz_ hkn hkl hn_ hc_ hrun_ HR_ hb_ hg_ hyS hlS hkt h0_ h1_
                              go_region_law (refine Go.Proofs.Ytgnimdlakocpjaa.Arr.step_copy rfl (.tmp 35) (.tmp 38) 24 24 rfl _ _ (by simp [Act.eval, Act.put]) (by simp [Act.eval, Act.put]) (hrun.out _) ?_)
                              obtain ⟨hx_0, hf_0⟩ := Kd.R_celln 0 HOs.out (x6_2 : Int) (of_decide_eq_true (by first | (with_reducible assumption) | assumption)) (of_decide_eq_true (by first | (with_reducible assumption) | assumption))
                              have HP18 := Kd.R_putg HOs.out (x6_2 : Int) (rd l0 x10_1)
                              clear HB
                              have HB := HBs
                              clear HO108
                              have HO108 := HOs
                              clear HOs HBs hrun
                              go_wp2_with (first | ((with_reducible refine gate_store (t := 3) (p := 43) rfl ?_); refine store_event (t := 3) (p := 43) (v := ?vo_w19) (w1 := (w18.setCell ⟨go16, (x6_2 : Int).toNat, none⟩ (.int .i64 (rd l0 x10_1)))) ?hg ?ho ?hn ?hr ?_; (case ho => rfl); (case hg => rfl); (case hn => rfl); (case hr => first | (go_simp; done) | (go_simp; rfl)); intro w19 hw; have hg : w18.grownBy w19 (some go16) := (by rw [hw]; exact HP18.2); have hp_ : Kd.R (Kd.int .i64) 3 w19 w.heap.size (fun _ => True) (.slice (some ⟨go16, 0, none⟩) y106.length co16) y109 := (by rw [hw, Ny109.out, ← HS_.out]; exact HP18.1); clear HP18; have n0_ := Aside0.mk (hp_); have n1_ := Aside0.mk ((by rw [hw]; exact below_set (HB.out) GB16.out : Below w.heap.size w w19)); clear HO108; clear HB; have HO108 := n0_; have HB := n1_; clear n0_ n1_; clear hg hw hp_))
                              go_roundg k2
                              case measure => have := HK1.out; have := HK2.out; omega
                              case rel => exact ⟨(y109), (wrap64 (x10_1 + 1)), (by first | rfl | (simp; done) | (simp [*]; done)), H', ⟨by have := HK1.out; have := HK2.out; omega⟩, ⟨by (with_reducible repeat (first | apply Kd.R_alloc | apply Kd.R_drewN | apply Kd.R_drew)); exact HO108.out⟩, ⟨by repeat (first | (with_reducible first | exact HB.out | apply below_alloc | apply pw_below_drewN | apply below_drew1) | exact HB.out)⟩⟩
                            · rw [if_neg c15] at H
                              exact absurd H (by simp)
                          · rw [if_neg c14] at H
                            exact absurd H (by simp)
                        · rw [if_neg c13] at H
                          exact absurd H (by simp)
                    · rw [if_neg c11] at H
                      exact absurd H (by simp)
                  · rw [if_neg c10] at H
                    exact absurd H (by simp)
                · rw [if_neg c8] at H
                  have c8b0 : decide (0 < x6_2) = false := decide_eq_false c8
                  clear c8
                  by_cases c20 : x3_1.length < 17592186044416
                  · rw [if_pos c20] at H
                    have LMc20 := Aside0.mk c20
                    clear c20
                    obtain ⟨y110, hy110⟩ : ∃ y_ : List Int, y_ = (x3_1 ++ [0]) := ⟨_, rfl⟩
                    replace H : (if 0 ≤ x6_2 then (if x6_2 < (y110.length : Int) then (impl_Sorted.l0 k2 ((Go.Proofs.Ytgnimdlakocpjaa.Arr.shifted y110 (x6_2 : Int).toNat).set (x6_2 : Int).toNat (rd l0 x10_1)) l0 (l0.length : Int) (wrap64 (x10_1 + 1))) else (none)) else (none)) = some r := by first | (rw [hy110]; with_reducible exact H) | (have H2_ := (Option.bind_some _ _).symm.trans H; rw [hy110]; with_reducible exact H2_) | (have H2_ := (Option.bind_some _ _).symm.trans H; with_reducible exact H2_) | with_reducible exact H | (rw [hy110]; exact H) | exact H
                    have Ny110 := Aside0.mk hy110
                    clear hy110
                    by_cases c21 : 0 ≤ x6_2
                    · rw [if_pos c21] at H
                      have c21b0 : decide (0 ≤ x6_2) = true := decide_eq_true c21
                      clear c21
                      by_cases c22 : x6_2 < (y110.length : Int)
                      · rw [if_pos c22] at H
                        have c22b0 : decide (x6_2 < (y110.length : Int)) = true := decide_eq_true c22
                        clear c22
                        obtain ⟨y113, hy113⟩ : ∃ y_ : List Int, y_ = ((Go.Proofs.Ytgnimdlakocpjaa.Arr.shifted y110 (x6_2 : Int).toNat).set (x6_2 : Int).toNat (rd l0 x10_1)) := ⟨_, rfl⟩
                        replace H : (impl_Sorted.l0 k2 y113 l0 (l0.length : Int) (wrap64 (x10_1 + 1))) = some r := by first | (rw [hy113]; with_reducible exact H) | (have H2_ := (Option.bind_some _ _).symm.trans H; rw [hy113]; with_reducible exact H2_) | (have H2_ := (Option.bind_some _ _).symm.trans H; with_reducible exact H2_) | with_reducible exact H | (rw [hy113]; exact H) | exact H
                        have Ny113 := Aside0.mk hy113
                        clear hy113
                        have H' := Aside0.mk H
                        clear H
                        go_wp2_with (first | ((with_reducible refine gate_builtin (b := .append) (xs := #[.tmp 29, .tmp 30]) rfl ?_); at_builtin; refine Kd.R_append (Kd.int .i64) (w0 := w) w.heap.size rfl (.tmp 29) (.tmp 30) 24 3 (.int .i64 0) 8 rfl Try.underlying24 info3 rfl (by decide) (by omega) (.slice Ao7 x3_1.length co7) x3_1 0 [.int .i64 0] (fun _ => True) (fun _ => False) rfl rfl ?aP (fun _ hk => hk.elim) ?aF ?aO ?aB ?aS ?aL ?_; (case aP => exact rfl); (case aB => exact (by repeat (first | (with_reducible first | exact HB.out | apply below_alloc | apply pw_below_drewN | apply below_drew1) | exact HB.out))); (case aF => exact (fun _ _ => trivial)); (case aO => exact (by (with_reducible repeat (first | apply Kd.R_alloc | apply Kd.R_drewN | apply Kd.R_drew)); exact HO_3.out)); (case aS => exact (below_size (by repeat (first | (with_reducible first | exact HB.out | apply below_alloc | apply pw_below_drewN | apply below_drew1) | exact HB.out)))); (case aL => have := LMc20.out; omega); intro v111 w24 ho hb hg hat; rw [← Ny110.out] at ho; have n0_ := Aside0.mk (hb); have n1_ := Aside0.mk (ho); clear HB; clear HO_3; have HB := n0_; have HO112 := n1_; clear n0_ n1_; clear ho hb hg hat; have p23 : 0 ≤ (x6_2 : Int) := of_decide_eq_true (by first | (with_reducible assumption) | assumption); have q23 : (x6_2 : Int) < ((y110.length : Int) : Int) := of_decide_eq_true (by first | (with_reducible assumption) | assumption); obtain ⟨go23, co23, eo23, gb23, gl23, cl23, HG23⟩ := Kd.R_form HO112.out (by omega); (first | cases eo23 | (injection eo23 with ea_ en_ ec_; (first | subst ea_ | (injection ea_ with ea_; subst ea_)); subst ec_; clear en_)); have GB23 := Aside0.mk gb23; have GG23 := Aside0.mk HG23; clear gb23 gl23 HG23))
                        have h0_ : 0 ≤ x6_2 := of_decide_eq_true (by first | (with_reducible assumption) | assumption)
                        have h1_ : x6_2 < (y110.length : Int) := of_decide_eq_true (by first | (with_reducible assumption) | assumption)
                        obtain ⟨kn, hkn⟩ := Int.eq_ofNat_of_zero_le h0_
                        have hkl : kn < y110.length := by omega
                        obtain ⟨hn_, hc_, _⟩ := Kd.R_reads' HO112.out
                        obtain ⟨i0_, hi0_, _, hsz_, _⟩ := info_parts info3
                        obtain ⟨dp_, hcut1, hdp_⟩ := Go.Proofs.Ytgnimdlakocpjaa.Arr.cut_from (P := Try.prog) 24 3 Try.underlying24 hi0_ hsz_ go23 y110.length co23 (kn + 1) (by omega) hc_
                        obtain ⟨sp_, hcut2, hsp_⟩ := Go.Proofs.Ytgnimdlakocpjaa.Arr.cut_from (P := Try.prog) 24 3 Try.underlying24 hi0_ hsz_ go23 y110.length co23 kn (by omega) hc_
                        have hcut1' : ∀ W : World, (Instr.slice 24 (.slice (some ⟨go23, 0, none⟩) y110.length co23) (some (.int .i64 (x6_2 + 1))) none none).run Try.prog W = .ok (.slice dp_ (y110.length - (kn + 1)) (co23 - (kn + 1))) W := by rw [hkn]; exact hcut1
                        have hcut2' : ∀ W : World, (Instr.slice 24 (.slice (some ⟨go23, 0, none⟩) y110.length co23) (some (.int .i64 x6_2)) none none).run Try.prog W = .ok (.slice sp_ (y110.length - kn) (co23 - kn)) W := by rw [hkn]; exact hcut2
                        have hw_ : IntKind.i64.wrap (x6_2 + 1) = x6_2 + 1 := by have hm_ := Kd.C_max (Kd.R_reads' HO112.out).2.2; exact (i64_w _).trans (by unfold wrap64; omega)
                        obtain ⟨w18, hrun_, HR_, hb_, hg_⟩ := Go.Proofs.Ytgnimdlakocpjaa.Arr.run_shift (W := w24.drew) (w0 := w) (B := w.heap.size) (t := 24) Try.underlying24 (by rw [hi0_]; simp [hsz_]) (Kd.R_drew HO112.out) (below_drew1 HB.out) hkl dp_ sp_ (co23 - (kn + 1)) (co23 - kn) hdp_ (hsp_ hkl)
                        obtain ⟨yS, hyS⟩ : ∃ yS, yS = Go.Proofs.Ytgnimdlakocpjaa.Arr.shifted y110 kn := ⟨_, rfl⟩
                        have hlS : yS.length = y110.length := by rw [hyS]; exact Go.Proofs.Ytgnimdlakocpjaa.Arr.shifted_length _ _ hkl
                        rw [← hyS] at HR_
                        have hkt : x6_2.toNat = kn := by omega
                        have HS_ := Aside0.mk (show yS = Go.Proofs.Ytgnimdlakocpjaa.Arr.shifted y110 (x6_2 : Int).toNat by rw [hkt, hyS])
                        have HL_ := Aside0.mk hlS
                        have HOs := Aside0.mk HR_
                        have HBs := Aside0.mk hb_
                        have hrun := Aside0.mk hrun_
                        skip
                        clear hcut1 hcut2 hdp_ hsp_ hi0_ hsz_ hkn hkl hn_ hc_ hrun_ HR_ hb_ hg_ hyS hlS hkt h0_ h1_
                        go_region_law (refine Go.Proofs.Ytgnimdlakocpjaa.Arr.step_copy rfl (.tmp 35) (.tmp 38) 24 24 rfl _ _ (by simp [Act.eval, Act.put]) (by simp [Act.eval, Act.put]) (hrun.out _) ?_)
                        obtain ⟨hx_0, hf_0⟩ := Kd.R_celln 0 HOs.out (x6_2 : Int) (of_decide_eq_true (by first | (with_reducible assumption) | assumption)) (of_decide_eq_true (by first | (with_reducible assumption) | assumption))
                        have HP25 := Kd.R_putg HOs.out (x6_2 : Int) (rd l0 x10_1)
                        clear HB
                        have HB := HBs
                        clear HO112
                        have HO112 := HOs
                        clear HOs HBs hrun
                        go_wp2_with (first | ((with_reducible refine gate_store (t := 3) (p := 43) rfl ?_); refine store_event (t := 3) (p := 43) (v := ?vo_w26) (w1 := (w18.setCell ⟨go23, (x6_2 : Int).toNat, none⟩ (.int .i64 (rd l0 x10_1)))) ?hg ?ho ?hn ?hr ?_; (case ho => rfl); (case hg => rfl); (case hn => rfl); (case hr => first | (go_simp; done) | (go_simp; rfl)); intro w26 hw; have hg : w18.grownBy w26 (some go23) := (by rw [hw]; exact HP25.2); have hp_ : Kd.R (Kd.int .i64) 3 w26 w.heap.size (fun _ => True) (.slice (some ⟨go23, 0, none⟩) y110.length co23) y113 := (by rw [hw, Ny113.out, ← HS_.out]; exact HP25.1); clear HP25; have n0_ := Aside0.mk (hp_); have n1_ := Aside0.mk ((by rw [hw]; exact below_set (HB.out) GB23.out : Below w.heap.size w w26)); clear HO112; clear HB; have HO112 := n0_; have HB := n1_; clear n0_ n1_; clear hg hw hp_))
                        go_roundg k2
                        case measure => have := HK1.out; have := HK2.out; omega
                        case rel => exact ⟨(y113), (wrap64 (x10_1 + 1)), (by first | rfl | (simp; done) | (simp [*]; done)), H', ⟨by have := HK1.out; have := HK2.out; omega⟩, ⟨by (with_reducible repeat (first | apply Kd.R_alloc | apply Kd.R_drewN | apply Kd.R_drew)); exact HO112.out⟩, ⟨by repeat (first | (with_reducible first | exact HB.out | apply below_alloc | apply pw_below_drewN | apply below_drew1) | exact HB.out)⟩⟩
                      · rw [if_neg c22] at H
                        exact absurd H (by simp)
                    · rw [if_neg c21] at H
                      exact absurd H (by simp)
                  · rw [if_neg c20] at H
                    exact absurd H (by simp)
          · rw [if_neg c6] at H
            exact absurd H (by simp)
        · rw [if_neg c5] at H
          exact absurd H (by simp)
      · rw [if_neg c4] at H
        have c4b0 : decide (x10_1 < (l0.length : Int)) = false := decide_eq_false c4
        clear c4
        obtain rfl := Option.some.inj H
        go_wp2
        go_ret
        exact ⟨_, by first | rfl | (simp [errW_none, errW_some] <;> rfl) | (simp [*, errW_none, errW_some] <;> rfl), by (with_reducible repeat (first | apply Kd.R_alloc | apply Kd.R_drewN | apply Kd.R_drew)); exact HO_3.out, by repeat (first | (with_reducible first | exact HB.out | apply below_alloc | apply pw_below_drewN | apply below_drew1) | exact HB.out)⟩


/-! ### impl_SuitOf: function 60 -/
def impl_SuitOf.f (a0 : Int) : Option (Int) := (impl_IsCard.f a0).bind fun t193 => (if t193 = true then (some (wrap64 (Int.tdiv a0 13))) else (some (-1)))
set_option maxHeartbeats 8000000 in
set_option maxRecDepth 100000 in
theorem impl_SuitOf.calls (a0 : Int) (r : Int) (w : World) (h : impl_SuitOf.f a0 = some r) :
    Calls Try.prog 60 #[.int .i64 a0] w fun e w' => e = .returned (.int .i64 r) ∧ Drawn0 w w' := by
  have H : ((impl_IsCard.f a0).bind fun t193 => (if t193 = true then (some (wrap64 (Int.tdiv a0 13))) else (some (-1)))) = some r := h
  clear h
  replace H := Option.bind_eq_some_iff.mp H
  obtain ⟨t193, A20, H⟩ := H
  replace H : (if t193 = true then (some (wrap64 (Int.tdiv a0 13))) else (some (-1))) = some r := H
  have A2 := Aside0.mk A20
  clear A20
  by_cases c3 : t193 = true
  · subst c3
    have H1 : (some (wrap64 (Int.tdiv a0 13))) = some r := by rw [if_pos rfl] at H; exact H
    clear H
    have H := H1
    clear H1
    obtain rfl := Option.some.inj H
    go_enter Try.func60, Try.ntmps60
    go_wp2_with (first | ((with_reducible refine gate_callee (f := 53) rfl ?_); refine goesL_ (some 4) rfl rfl Try.func53 (by kernel_rfl) rfl #[.int .i64 a0] rfl (by (try simp only [List.map_toArray, List.map_cons, List.map_nil]); first | done | rfl | (simp only [List.length_drop, List.length_take]; rfl)) ?_; (with_reducible refine (impl_IsCard.calls a0 true _ A2.out).mono ?_); rintro e w' ⟨rfl, ⟨nd, rfl⟩⟩; refine ⟨_, rfl, ?_⟩))
    go_ret
    exact ⟨by first | rfl | (simp; done) | (simp [*]; done), by repeat (first | exact Drawn0.refl _ | apply Drawn0.step)⟩
  · replace c3 := Bool.eq_false_iff.mpr c3
    subst c3
    have H1 : (some (-1)) = some r := by rw [if_neg (show ¬ (false = true) by decide)] at H; exact H
    clear H
    have H := H1
    clear H1
    obtain rfl := Option.some.inj H
    go_enter Try.func60, Try.ntmps60
    go_wp2_with (first | ((with_reducible refine gate_callee (f := 53) rfl ?_); refine goesL_ (some 4) rfl rfl Try.func53 (by kernel_rfl) rfl #[.int .i64 a0] rfl (by (try simp only [List.map_toArray, List.map_cons, List.map_nil]); first | done | rfl | (simp only [List.length_drop, List.length_take]; rfl)) ?_; (with_reducible refine (impl_IsCard.calls a0 false _ A2.out).mono ?_); rintro e w' ⟨rfl, ⟨nd, rfl⟩⟩; refine ⟨_, rfl, ?_⟩))
    go_ret
    exact ⟨by first | rfl | (simp; done) | (simp [*]; done), by repeat (first | exact Drawn0.refl _ | apply Drawn0.step)⟩

/-! ### impl_RankOf: function 61 -/
def impl_RankOf.f (a0 : Int) : Option (Int) := (impl_IsCard.f a0).bind fun t194 => (if t194 = true then (some (Int.tmod a0 13)) else (some (-1)))
set_option maxHeartbeats 8000000 in
set_option maxRecDepth 100000 in
theorem impl_RankOf.calls (a0 : Int) (r : Int) (w : World) (h : impl_RankOf.f a0 = some r) :
    Calls Try.prog 61 #[.int .i64 a0] w fun e w' => e = .returned (.int .i64 r) ∧ Drawn0 w w' := by
  have H : ((impl_IsCard.f a0).bind fun t194 => (if t194 = true then (some (Int.tmod a0 13)) else (some (-1)))) = some r := h
  clear h
  replace H := Option.bind_eq_some_iff.mp H
  obtain ⟨t194, A20, H⟩ := H
  replace H : (if t194 = true then (some (Int.tmod a0 13)) else (some (-1))) = some r := H
  have A2 := Aside0.mk A20
  clear A20
  by_cases c3 : t194 = true
  · subst c3
    have H1 : (some (Int.tmod a0 13)) = some r := by rw [if_pos rfl] at H; exact H
    clear H
    have H := H1
    clear H1
    obtain rfl := Option.some.inj H
    go_enter Try.func61, Try.ntmps61
    go_wp2_with (first | ((with_reducible refine gate_callee (f := 53) rfl ?_); refine goesL_ (some 4) rfl rfl Try.func53 (by kernel_rfl) rfl #[.int .i64 a0] rfl (by (try simp only [List.map_toArray, List.map_cons, List.map_nil]); first | done | rfl | (simp only [List.length_drop, List.length_take]; rfl)) ?_; (with_reducible refine (impl_IsCard.calls a0 true _ A2.out).mono ?_); rintro e w' ⟨rfl, ⟨nd, rfl⟩⟩; refine ⟨_, rfl, ?_⟩))
    go_ret
    exact ⟨by first | rfl | (simp; done) | (simp [*]; done), by repeat (first | exact Drawn0.refl _ | apply Drawn0.step)⟩
  · replace c3 := Bool.eq_false_iff.mpr c3
    subst c3
    have H1 : (some (-1)) = some r := by rw [if_neg (show ¬ (false = true) by decide)] at H; exact H
    clear H
    have H := H1
    clear H1
    obtain rfl := Option.some.inj H
    go_enter Try.func61, Try.ntmps61
    go_wp2_with (first | ((with_reducible refine gate_callee (f := 53) rfl ?_); refine goesL_ (some 4) rfl rfl Try.func53 (by kernel_rfl) rfl #[.int .i64 a0] rfl (by (try simp only [List.map_toArray, List.map_cons, List.map_nil]); first | done | rfl | (simp only [List.length_drop, List.length_take]; rfl)) ?_; (with_reducible refine (impl_IsCard.calls a0 false _ A2.out).mono ?_); rintro e w' ⟨rfl, ⟨nd, rfl⟩⟩; refine ⟨_, rfl, ?_⟩))
    go_ret
    exact ⟨by first | rfl | (simp; done) | (simp [*]; done), by repeat (first | exact Drawn0.refl _ | apply Drawn0.step)⟩

/-! ### impl_ranked: function 115 -/
mutual
def impl_ranked.l1 : Nat → List Int → List Int → List Int → Int → Option (List Int × List Int)
  | 0, _, _, _, _ => none
  | k + 1, s, x7, x8, x9 => if x9 ≥ 1 then (impl_ranked.l2 k s x7 x8 x9 12) else (some (x7, x8))
def impl_ranked.l2 : Nat → List Int → List Int → List Int → Int → Int → Option (List Int × List Int)
  | 0, _, _, _, _, _ => none
  | k + 1, s, x7, x8, x9, x10 => if x10 ≥ 0 then (if 0 ≤ x10 then (if x10 < (s.length : Int) then (if (rd s x10) = x9 then (if x7.length < 17592186044416 then (if x8.length < 17592186044416 then (impl_ranked.l2 k s (x7 ++ [x10]) (x8 ++ [x9]) x9 (wrap64 (x10 - 1))) else (none)) else (none)) else (impl_ranked.l2 k s x7 x8 x9 (wrap64 (x10 - 1)))) else (none)) else (none)) else (impl_ranked.l1 k s x7 x8 (wrap64 (x9 - 1)))
end
def impl_ranked.l0 : Nat → List Int → List Int → Int → Option (List Int × List Int)
  | 0, _, _, _ => none
  | k + 1, x0, s, x14 => if x14 < (x0.length : Int) then (if 0 ≤ x14 then ((impl_RankOf.f (rd x0 x14)).bind fun t => (if 0 ≤ t then (if t < 13 then (impl_ranked.l0 k x0 (s.set t.toNat (wrap64 (s.getD t.toNat 0 + 1))) (wrap64 (x14 + 1))) else none) else none)) else none) else (impl_ranked.l1 k s ([] : List Int) ([] : List Int) 4)
def impl_ranked.f (k : Nat) (l0 : List Int) : Option (List Int × List Int) := impl_ranked.l0 k l0 (List.replicate 13 0) 0
theorem impl_ranked.mono_12 : ∀ k, (∀ y0 y1 y2 y3, LeO (impl_ranked.l1 k y0 y1 y2 y3) (impl_ranked.l1 (k + 1) y0 y1 y2 y3)) ∧ (∀ y0 y1 y2 y3 y4, LeO (impl_ranked.l2 k y0 y1 y2 y3 y4) (impl_ranked.l2 (k + 1) y0 y1 y2 y3 y4))
  | 0 => ⟨fun _ _ _ _ r h => by simp [impl_ranked.l1] at h, fun _ _ _ _ _ r h => by simp [impl_ranked.l2] at h⟩
  | k + 1 => by
    obtain ⟨ih0, ih1⟩ := impl_ranked.mono_12 k
    refine ⟨?_, ?_⟩
    · intro y0 y1 y2 y3
      unfold impl_ranked.l1
      repeat' first
      | (with_reducible exact ih0 _ _ _ _)
      | (with_reducible exact ih1 _ _ _ _ _)
      | (with_reducible exact LeO.refl _)
      | (with_reducible exact LeO.none _)
      | (with_reducible refine LeO.ite ?_ ?_)
      | (with_reducible refine LeO.bind ?_ (fun _ => ?_))
    · intro y0 y1 y2 y3 y4
      unfold impl_ranked.l2
      repeat' first
      | (with_reducible exact ih0 _ _ _ _)
      | (with_reducible exact ih1 _ _ _ _ _)
      | (with_reducible exact LeO.refl _)
      | (with_reducible exact LeO.none _)
      | (with_reducible refine LeO.ite ?_ ?_)
      | (with_reducible refine LeO.bind ?_ (fun _ => ?_))
theorem impl_ranked.mono_l : ∀ k, (∀ y0 y1 y2, LeO (impl_ranked.l0 k y0 y1 y2) (impl_ranked.l0 (k + 1) y0 y1 y2))
  | 0 => fun _ _ _ r h => by simp [impl_ranked.l0] at h
  | k + 1 => by
    have ih0 := impl_ranked.mono_l k
    have ih1 := (impl_ranked.mono_12 k).1
    intro y0 y1 y2
    unfold impl_ranked.l0
    repeat' first
      | (with_reducible exact ih0 _ _ _)
      | (with_reducible exact ih1 _ _ _ _)
      | (with_reducible exact LeO.refl _)
      | (with_reducible exact LeO.none _)
      | (with_reducible refine LeO.ite ?_ ?_)
      | (with_reducible refine LeO.bind ?_ (fun _ => ?_))
theorem impl_ranked.mono : ∀ a0 k, LeO (impl_ranked.f k a0) (impl_ranked.f (k + 1) a0) := by
  intro a0 k
  unfold impl_ranked.f
  exact impl_ranked.mono_l k _ _ _
set_option maxHeartbeats 8000000 in
set_option maxRecDepth 100000 in
theorem impl_ranked.calls (k : Nat) (A0 : Option Addr) (c0 : Nat) (l0 : List Int) (r1 : List Int) (r2 : List Int) (w : World) (hr0 : Kd.C (Kd.int .i64) w A0 l0.length l0) (hc0 : l0.length ≤ c0) (h : impl_ranked.f k l0 = some (r1, r2)) :
    Calls Try.prog 115 #[.slice A0 l0.length c0] w fun e w' => ∃ v0_ v1_ : Value, e = .returned (.tuple #[v0_, v1_]) ∧ Kd.R (Kd.int .i64) 3 w' w.heap.size (fun k_ => some k_ ≠ (v1_ : Value).ownBlock) v0_ r1 ∧ Kd.R (Kd.int .i64) 3 w' w.heap.size (fun k_ => some k_ ≠ (v0_ : Value).ownBlock) v1_ r2 ∧ Below w.heap.size w w' := by
  have HR0 := Aside0.mk hr0
  have HC0 := Aside0.mk hc0
  clear hr0 hc0
  have H : (impl_ranked.l0 k l0 (List.replicate 13 0) 0) = some (r1, r2) := h
  clear h
  have H' := Aside0.mk H
  clear H
  have hZ : Try.prog.built 98 [] = some ((List.replicate 13 (0 : Int)).map (Value.int .i64)).toArray := by kernel_rfl
  have hz : ∀ W, (zeroValue 98).run Try.prog W = .ok (.agg ((List.replicate 13 (0 : Int)).map (Value.int .i64)).toArray) W := fun _ => by kernel_rfl
  have hi : (Try.prog.info? 98).map (·.size) = some ((List.replicate 13 (0 : Int)).map (Value.int .i64)).toArray.size := by kernel_rfl
  have h1 : (((List.replicate 13 (0 : Int)).map (Value.int .i64)).toArray).all (·.oneCell') = true := by kernel_rfl
  obtain ⟨s0, hs0⟩ : ∃ s0 : List Int, s0 = List.replicate 13 0 := ⟨_, rfl⟩
  rw [← hs0] at hZ hz hi h1 H'
  have HL := Aside0.mk (show s0.length = 13 by rw [hs0]; rfl)
  clear hs0
  obtain ⟨Z, hZ'⟩ : ∃ Z : Array Value, Z = (s0.map (Value.int .i64)).toArray := ⟨_, rfl⟩
  rw [← hZ'] at hZ hz hi h1
  have HZ := Aside0.mk hZ'
  have hb_ := Aside0.mk hZ
  have hz_ := Aside0.mk hz
  have hi_ := Aside0.mk hi
  have h1_ := Aside0.mk h1
  clear hZ' hZ hz hi h1
  go_enter Try.func115, Try.ntmps115
  go_upto_region 1 with (fail)
  refine wp_region_lit ?_
  refine Go.Proofs.Ytgnimdlakocpjaa.Arr.arr_region 98 Z 11 4 rfl rfl rfl rfl rfl rfl rfl rfl rfl hb_.out hz_.out hi_.out h1_.out rfl rfl ?_
  clear hb_ hz_ hi_ h1_
  go_wp2
  rw [HZ.out]
  go_loopg [14] k (fun kq v14 w' => ∃ (x14 : Int) (s : List Int), v14 = .int .i64 x14 ∧ Aside0 (impl_ranked.l0 kq l0 s x14 = some (r1, r2)) ∧ Aside0 (kq ≤ k) ∧ Aside0 (s.length = 13) ∧ Aside0 (w'.heap[w.heap.size]? = some (.cells (s.map (Value.int .i64)).toArray 98 (0, 0))) ∧ Aside0 (Below w.heap.size w w'))
  case atStart => exact ⟨0, s0, rfl, H', ⟨Nat.le_refl _⟩, HL, ⟨heap_alloc_new w _⟩, ⟨below_alloc (Below.refl _ _) _⟩⟩
  case round =>
    clear H' HZ HL
    obtain ⟨x14, s, rfl, HA, HK0, HS, HX, HBW⟩ := hrel
    cases gk with
    | zero => exact absurd HA.out (by simp [impl_ranked.l0])
    | succ kk =>
      have H := HA.out
      clear HA
      simp only [impl_ranked.l0] at H
      by_cases c4 : x14 < (l0.length : Int)
      · rw [if_pos c4] at H
        have c4b : decide (x14 < (l0.length : Int)) = true := decide_eq_true c4
        by_cases c5 : 0 ≤ x14
        · rw [if_pos c5] at H
          have c5b : decide (0 ≤ x14) = true := decide_eq_true c5
          obtain ⟨ad1, e1, hx1⟩ := Kd.at_int HR0.out x14 c5 c4
          cases e1
          replace hx1 := (HBW.out.cell (World.block_lt_of_cell? w _ hx1)).trans hx1
          have p1 := eq_true c5
          have q1 := eq_true c4
          clear c4 c5
          obtain ⟨y, hy⟩ : ∃ y : Int, y = rd l0 x14 := ⟨_, rfl⟩
          rw [← hy] at H hx1
          clear hy
          replace H := Option.bind_eq_some_iff.mp H
          obtain ⟨t, A0_, H⟩ := H
          have A1 := Aside0.mk A0_
          clear A0_
          by_cases c6 : 0 ≤ t
          · rw [if_pos c6] at H
            by_cases c7 : t < 13
            · rw [if_pos c7] at H
              have hyl : t.toNat < s.length := by have := HS.out; omega
              obtain ⟨hx2, hf2⟩ := Go.Proofs.Ytgnimdlakocpjaa.Arr.arr_at (enc := Value.int .i64) 0 HX.out t hyl
              have p2 := eq_true c6
              have q2 := eq_true c7
              clear hyl c6 c7
              have H2 := Aside0.mk H
              clear H
              go_wp2_with (first | ((with_reducible refine gate_callee (f := 61) rfl ?_); refine goesL_ (some 19) rfl rfl Try.func61 (by kernel_rfl) rfl #[.int .i64 y] rfl (by (try simp only [List.map_toArray, List.map_cons, List.map_nil]); first | done | rfl) ?_; (with_reducible refine (impl_RankOf.calls y t _ A1.out).mono ?_); rintro e w' ⟨rfl, ⟨nd, rfl⟩⟩; refine ⟨_, rfl, ?_⟩))
              go_roundg kk
              case measure => have := HK0.out; omega
              case rel => exact ⟨wrap64 (x14 + 1), s.set t.toNat (wrap64 (s.getD t.toNat 0 + 1)), (by first | rfl | (simp; done) | (simp [*]; done)), H2, ⟨by have := HK0.out; omega⟩, ⟨by rw [List.length_set]; exact HS.out⟩, ⟨Go.Proofs.Ytgnimdlakocpjaa.Arr.arr_put (enc := Value.int .i64) (by simpa using HX.out) t (wrap64 (s.getD t.toNat 0 + 1))⟩, ⟨below_set (by repeat (first | exact HBW.out | apply pw_below_drewN)) (Nat.le_refl _)⟩⟩
            · rw [if_neg c7] at H
              exact absurd H (by simp)
          · rw [if_neg c6] at H
            exact absurd H (by simp)
        · rw [if_neg c5] at H
          exact absurd H (by simp)
      · rw [if_neg c4] at H
        have c4b : decide (x14 < (l0.length : Int)) = false := decide_eq_false c4
        clear c4
        obtain ⟨W1, hW1⟩ : ∃ W1 : World, W1 = wr := ⟨_, rfl⟩
        subst hW1
        have HB := Aside0.mk (Below.refl W1.heap.size W1)
        obtain ⟨y103, hy103⟩ : ∃ y_ : List Int, y_ = (([] : List Int)) := ⟨_, rfl⟩
        replace H : (impl_ranked.l1 kk s y103 (([] : List Int)) 4) = some (r1, r2) := by first | (rw [hy103]; with_reducible exact H) | (have H2_ := (Option.bind_some _ _).symm.trans H; rw [hy103]; with_reducible exact H2_) | (have H2_ := (Option.bind_some _ _).symm.trans H; with_reducible exact H2_) | with_reducible exact H | (rw [hy103]; exact H) | exact H
        have Ny103 := Aside0.mk hy103
        clear hy103
        obtain ⟨y106, hy106⟩ : ∃ y_ : List Int, y_ = (([] : List Int)) := ⟨_, rfl⟩
        replace H : (impl_ranked.l1 kk s y103 y106 4) = some (r1, r2) := by first | (rw [hy106]; with_reducible exact H) | (have H2_ := (Option.bind_some _ _).symm.trans H; rw [hy106]; with_reducible exact H2_) | (have H2_ := (Option.bind_some _ _).symm.trans H; with_reducible exact H2_) | with_reducible exact H | (rw [hy106]; exact H) | exact H
        have Ny106 := Aside0.mk hy106
        clear hy106
        have H' := Aside0.mk H
        clear H
        go_wp2_with (first | ((with_reducible refine gate_dst (N := 25) rfl ?_); refine Kd.R_lit (Kd.int .i64) _ 3 ?hg (N := 25) ?hd (xs := ([] : List Int)) (inner := []) (ok := fun _ => True) (okp := fun _ => True) ?hr ?hp (fun _ hk => hk) trivial (Below.refl _ _) (Nat.le_refl _) (by simp) ?_; (case hd => rfl); (case hg => rfl); (case hr => first | (go_simp; done) | (go_simp; rfl)); (case hp => exact (Reps.none _ _)); intro v104 w3 ho4 hb hg_ hnew_; clear hg_ hnew_; (first | rw [← Ny103.out] at ho4 | (simp only [Int.reduceToNat] at ho4; rw [← Ny103.out] at ho4)); have n0_ := Aside0.mk (Kd.R_lower ho4 (below_size (by repeat (first | (with_reducible first | exact HB.out | apply below_alloc | apply pw_below_drewN | apply below_drew1) | exact HB.out)))); have n1_ := Aside0.mk (below_step (by repeat (first | (with_reducible first | exact HB.out | apply below_alloc | apply pw_below_drewN | apply below_drew1) | exact HB.out)) hb); clear HB; have HO105 := n0_; have HB := n1_; clear n0_ n1_; clear hb ho4) | ((with_reducible refine gate_dst (N := 26) rfl ?_); refine Kd.R_lit (Kd.int .i64) _ 3 ?hg (N := 26) ?hd (xs := ([] : List Int)) (inner := []) (ok := fun _ => True) (okp := fun _ => True) ?hr ?hp (fun _ hk => hk) trivial (Below.refl _ _) (Nat.le_refl _) (by simp) ?_; (case hd => rfl); (case hg => rfl); (case hr => first | (go_simp; done) | (go_simp; rfl)); (case hp => exact (Reps.none _ _)); intro v107 w5 ho6 hb hg_ hnew_; clear hg_ hnew_; (first | rw [← Ny106.out] at ho6 | (simp only [Int.reduceToNat] at ho6; rw [← Ny106.out] at ho6)); have n0_ := Aside0.mk (Kd.R_elder' (by (with_reducible repeat (first | apply Kd.R_alloc | apply Kd.R_drewN | apply Kd.R_drew)); exact HO105.out) (Kd.R_base ho6) hb); have n1_ := Aside0.mk (Kd.R_lower (Kd.R_new' ho6 (Kd.R_lt (by (with_reducible repeat (first | apply Kd.R_alloc | apply Kd.R_drewN | apply Kd.R_drew)); exact HO105.out))) (below_size (by repeat (first | (with_reducible first | exact HB.out | apply below_alloc | apply pw_below_drewN | apply below_drew1) | exact HB.out)))); have n2_ := Aside0.mk (below_step (by repeat (first | (with_reducible first | exact HB.out | apply below_alloc | apply pw_below_drewN | apply below_drew1) | exact HB.out)) hb); clear HO105; clear HB; have HO105 := n0_; have HO108 := n1_; have HB := n2_; clear n0_ n1_ n2_; clear hb ho6))
        go_loopg [7, 8, 9] kk (fun kq v7 v8 v9 w' => ∃ (x7_1 : List Int) (x8_1 : List Int) (x9_1 : Int), v9 = .int .i64 x9_1 ∧ Aside0 (impl_ranked.l1 kq s x7_1 x8_1 x9_1 = some (r1, r2)) ∧ Aside0 (kq ≤ kk) ∧ Aside0 (Kd.R (Kd.int .i64) 3 w' W1.heap.size (fun k_ => some k_ ≠ (v8 : Value).ownBlock) v7 x7_1) ∧ Aside0 (Kd.R (Kd.int .i64) 3 w' W1.heap.size (fun k_ => some k_ ≠ (v7 : Value).ownBlock) v8 x8_1) ∧ Aside0 (Below W1.heap.size W1 w'))
        case atStart => exact ⟨(y103), (y106), (4), (by first | rfl | (simp; done) | (simp [*]; done)), H', ⟨Nat.le_refl _⟩, ⟨by (with_reducible repeat (first | apply Kd.R_alloc | apply Kd.R_drewN | apply Kd.R_drew)); exact Kd.R_mono HO105.out (fun _ hk => by first | exact hk.2 | exact hk)⟩, ⟨by (with_reducible repeat (first | apply Kd.R_alloc | apply Kd.R_drewN | apply Kd.R_drew)); exact Kd.R_mono HO108.out (fun _ hk => by first | exact hk.2 | exact hk)⟩, ⟨by repeat (first | (with_reducible first | exact HB.out | apply below_alloc | apply pw_below_drewN | apply below_drew1) | exact HB.out)⟩⟩
        case round =>
          clear H'
          try clear c1
          try clear p2
          obtain ⟨x7_1, x8_1, x9_1, rfl, HA, HK1, HO_7, HO_8, HB⟩ := hrel
          cases gk with
          | zero => exact absurd HA.out (by simp [impl_ranked.l1])
          | succ k1 =>
            have H := HA.out
            clear HA
            simp only [impl_ranked.l1] at H
            by_cases c7 : x9_1 ≥ 1
            · rw [if_pos c7] at H
              have c7b0 : decide (1 ≤ x9_1) = true := decide_eq_true c7
              clear c7
              have H' := Aside0.mk H
              clear H
              go_wp2
              go_loopg [7, 8, 10] k1 (fun kq v7 v8 v10 w' => ∃ (x7_2 : List Int) (x8_2 : List Int) (x10_2 : Int), v10 = .int .i64 x10_2 ∧ Aside0 (impl_ranked.l2 kq s x7_2 x8_2 x9_1 x10_2 = some (r1, r2)) ∧ Aside0 (kq ≤ k1) ∧ Aside0 (Kd.R (Kd.int .i64) 3 w' W1.heap.size (fun k_ => some k_ ≠ (v8 : Value).ownBlock) v7 x7_2) ∧ Aside0 (Kd.R (Kd.int .i64) 3 w' W1.heap.size (fun k_ => some k_ ≠ (v7 : Value).ownBlock) v8 x8_2) ∧ Aside0 (Below W1.heap.size W1 w'))
              case atStart => exact ⟨(x7_1), (x8_1), (12), (by first | rfl | (simp; done) | (simp [*]; done)), H', ⟨Nat.le_refl _⟩, ⟨by (with_reducible repeat (first | apply Kd.R_alloc | apply Kd.R_drewN | apply Kd.R_drew)); exact HO_7.out⟩, ⟨by (with_reducible repeat (first | apply Kd.R_alloc | apply Kd.R_drewN | apply Kd.R_drew)); exact HO_8.out⟩, ⟨by repeat (first | (with_reducible first | exact HB.out | apply below_alloc | apply pw_below_drewN | apply below_drew1) | exact HB.out)⟩⟩
              case round =>
                clear H'
                try clear c1
                try clear p2
                try clear c7
                try clear c7b0
                try clear p2
                obtain ⟨x7_2, x8_2, x10_2, rfl, HA, HK2, HO_7, HO_8, HB⟩ := hrel
                cases gk with
                | zero => exact absurd HA.out (by simp [impl_ranked.l2])
                | succ k2 =>
                  have H := HA.out
                  clear HA
                  simp only [impl_ranked.l2] at H
                  by_cases c8 : x10_2 ≥ 0
                  · rw [if_pos c8] at H
                    have c8b0 : decide (0 ≤ x10_2) = true := decide_eq_true c8
                    clear c8
                    by_cases c9 : 0 ≤ x10_2
                    · rw [if_pos c9] at H
                      have c9b0 : decide (0 ≤ x10_2) = true := decide_eq_true c9
                      clear c9
                      by_cases c10 : x10_2 < (s.length : Int)
                      · rw [if_pos c10] at H
                        have c10b0 : decide (x10_2 < (s.length : Int)) = true := decide_eq_true c10
                        clear c10
                        by_cases c11 : (rd s x10_2) = x9_1
                        · rw [if_pos c11] at H
                          have c11b0 : ((rd s x10_2) == x9_1) = true := beq_iff_eq.mpr c11
                          have c11b1 : ((rd s x10_2) != x9_1) = false := bne_eq_false_iff_eq.mpr c11
                          clear c11
                          by_cases c12 : x7_2.length < 17592186044416
                          · rw [if_pos c12] at H
                            have LMc12 := Aside0.mk c12
                            clear c12
                            obtain ⟨y110, hy110⟩ : ∃ y_ : List Int, y_ = (x7_2 ++ [x10_2]) := ⟨_, rfl⟩
                            replace H : (if x8_2.length < 17592186044416 then (impl_ranked.l2 k2 s y110 (x8_2 ++ [x9_1]) x9_1 (wrap64 (x10_2 - 1))) else (none)) = some (r1, r2) := by first | (rw [hy110]; with_reducible exact H) | (have H2_ := (Option.bind_some _ _).symm.trans H; rw [hy110]; with_reducible exact H2_) | (have H2_ := (Option.bind_some _ _).symm.trans H; with_reducible exact H2_) | with_reducible exact H | (rw [hy110]; exact H) | exact H
                            have Ny110 := Aside0.mk hy110
                            clear hy110
                            by_cases c13 : x8_2.length < 17592186044416
                            · rw [if_pos c13] at H
                              have LMc13 := Aside0.mk c13
                              clear c13
                              obtain ⟨y113, hy113⟩ : ∃ y_ : List Int, y_ = (x8_2 ++ [x9_1]) := ⟨_, rfl⟩
                              replace H : (impl_ranked.l2 k2 s y110 y113 x9_1 (wrap64 (x10_2 - 1))) = some (r1, r2) := by first | (rw [hy113]; with_reducible exact H) | (have H2_ := (Option.bind_some _ _).symm.trans H; rw [hy113]; with_reducible exact H2_) | (have H2_ := (Option.bind_some _ _).symm.trans H; with_reducible exact H2_) | with_reducible exact H | (rw [hy113]; exact H) | exact H
                              have Ny113 := Aside0.mk hy113
                              clear hy113
                              have H' := Aside0.mk H
                              clear H
                              have p109 : 0 ≤ (x10_2 : Int) := of_decide_eq_true (by first | (with_reducible assumption) | assumption)
                              have q109 : x10_2 < (s.length : Int) := of_decide_eq_true (by first | (with_reducible assumption) | assumption)
                              obtain ⟨hx109_0, hf109_0⟩ := Go.Proofs.Ytgnimdlakocpjaa.Arr.arr_at (enc := Value.int .i64) 0 HX.out x10_2 (by have := p109; have := q109; omega)
                              clear hf109_0
                              have q13 := eq_true (show x10_2 < 13 by have := HS.out; have := q109; omega)
                              replace hx109_0 := (HB.out.cell (World.block_lt_of_cell? W1 _ hx109_0)).trans hx109_0
                              rw [show s.getD x10_2.toNat 0 = rd s x10_2 from rfl] at hx109_0
                              replace p109 := eq_true p109
                              replace q109 := eq_true q109
                              go_wp2_with (first | ((with_reducible refine gate_builtin (b := .append) (xs := #[.tmp 40, .tmp 42]) rfl ?_); at_builtin; refine Kd.R_append (Kd.int .i64) (w0 := W1) W1.heap.size rfl (.tmp 40) (.tmp 42) 24 3 (.int .i64 0) 8 rfl Try.underlying24 info3 rfl (by decide) (by omega) u7 x7_2 x10_2 [.int .i64 x10_2] (fun k_ => some k_ ≠ (u8 : Value).ownBlock) (fun _ => False) rfl rfl ?aP (fun _ hk => hk.elim) ?aF ?aO ?aB ?aS ?aL ?_; (case aP => exact rfl); (case aB => exact (by repeat (first | (with_reducible first | exact HB.out | apply below_alloc | apply pw_below_drewN | apply below_drew1) | exact HB.out))); (case aF => exact (fun k_ hk => Kd.fresh' (Kd.R_lt (by (with_reducible repeat (first | apply Kd.R_alloc | apply Kd.R_drewN | apply Kd.R_drew)); exact HO_8.out)) k_ hk)); (case aO => exact (by (with_reducible repeat (first | apply Kd.R_alloc | apply Kd.R_drewN | apply Kd.R_drew)); exact HO_7.out)); (case aS => exact (below_size (by repeat (first | (with_reducible first | exact HB.out | apply below_alloc | apply pw_below_drewN | apply below_drew1) | exact HB.out)))); (case aL => have := LMc12.out; omega); intro v111 w14 ho hb hg hat; rw [← Ny110.out] at ho; have n0_ := Aside0.mk (Kd.R_after (ok := (fun _ => True)) (by (with_reducible repeat (first | apply Kd.R_alloc | apply Kd.R_drewN | apply Kd.R_drew)); exact Kd.R_mono HO_8.out (fun _ hk => ⟨trivial, hk⟩)) hg hat); have n1_ := Aside0.mk (hb); have n2_ := Aside0.mk (ho); clear HO_8; clear HB; clear HO_7; have HO_8 := n0_; have HB := n1_; have HO112 := n2_; clear n0_ n1_ n2_; clear ho hb hg hat) | ((with_reducible refine gate_builtin (b := .append) (xs := #[.tmp 44, .tmp 46]) rfl ?_); at_builtin; refine Kd.R_append (Kd.int .i64) (w0 := W1) W1.heap.size rfl (.tmp 44) (.tmp 46) 24 3 (.int .i64 0) 8 rfl Try.underlying24 info3 rfl (by decide) (by omega) u8 x8_2 x9_1 [.int .i64 x9_1] (fun k_ => some k_ ≠ (v111 : Value).ownBlock) (fun _ => False) rfl rfl ?aP (fun _ hk => hk.elim) ?aF ?aO ?aB ?aS ?aL ?_; (case aP => exact rfl); (case aB => exact (by repeat (first | (with_reducible first | exact HB.out | apply below_alloc | apply pw_below_drewN | apply below_drew1) | exact HB.out))); (case aF => exact (fun k_ hk => Kd.fresh' (Kd.R_lt (by (with_reducible repeat (first | apply Kd.R_alloc | apply Kd.R_drewN | apply Kd.R_drew)); exact HO112.out)) k_ hk)); (case aO => exact (by (with_reducible repeat (first | apply Kd.R_alloc | apply Kd.R_drewN | apply Kd.R_drew)); exact Kd.R_mono HO_8.out (fun _ hk => by first | exact hk.2 | exact hk))); (case aS => exact (below_size (by repeat (first | (with_reducible first | exact HB.out | apply below_alloc | apply pw_below_drewN | apply below_drew1) | exact HB.out)))); (case aL => have := LMc13.out; omega); intro v114 w15 ho hb hg hat; rw [← Ny113.out] at ho; have n0_ := Aside0.mk (Kd.R_after (ok := (fun _ => True)) (by (with_reducible repeat (first | apply Kd.R_alloc | apply Kd.R_drewN | apply Kd.R_drew)); exact Kd.R_mono HO112.out (fun _ hk => ⟨trivial, hk⟩)) hg hat); have n1_ := Aside0.mk (hb); have n2_ := Aside0.mk (ho); clear HO112; clear HB; clear HO_8; have HO112 := n0_; have HB := n1_; have HO115 := n2_; clear n0_ n1_ n2_; clear ho hb hg hat))
                              go_roundg k2
                              case measure => have := HK0.out; have := HK1.out; have := HK2.out; omega
                              case rel => exact ⟨(y110), (y113), (wrap64 (x10_2 - 1)), (by first | rfl | (simp; done) | (simp [*]; done)), H', ⟨by have := HK0.out; have := HK1.out; have := HK2.out; omega⟩, ⟨by (with_reducible repeat (first | apply Kd.R_alloc | apply Kd.R_drewN | apply Kd.R_drew)); exact Kd.R_mono HO112.out (fun _ hk => by first | exact hk.2 | exact hk)⟩, ⟨by (with_reducible repeat (first | apply Kd.R_alloc | apply Kd.R_drewN | apply Kd.R_drew)); exact HO115.out⟩, ⟨by repeat (first | (with_reducible first | exact HB.out | apply below_alloc | apply pw_below_drewN | apply below_drew1) | exact HB.out)⟩⟩
                            · rw [if_neg c13] at H
                              exact absurd H (by simp)
                          · rw [if_neg c12] at H
                            exact absurd H (by simp)
                        · rw [if_neg c11] at H
                          have c11b0 : ((rd s x10_2) == x9_1) = false := beq_eq_false_iff_ne.mpr c11
                          have c11b1 : ((rd s x10_2) != x9_1) = true := bne_iff_ne.mpr c11
                          have H' := Aside0.mk H
                          clear H
                          have p109 : 0 ≤ (x10_2 : Int) := of_decide_eq_true (by first | (with_reducible assumption) | assumption)
                          have q109 : x10_2 < (s.length : Int) := of_decide_eq_true (by first | (with_reducible assumption) | assumption)
                          obtain ⟨hx109_0, hf109_0⟩ := Go.Proofs.Ytgnimdlakocpjaa.Arr.arr_at (enc := Value.int .i64) 0 HX.out x10_2 (by have := p109; have := q109; omega)
                          clear hf109_0
                          have q13 := eq_true (show x10_2 < 13 by have := HS.out; have := q109; omega)
                          replace hx109_0 := (HB.out.cell (World.block_lt_of_cell? W1 _ hx109_0)).trans hx109_0
                          rw [show s.getD x10_2.toNat 0 = rd s x10_2 from rfl] at hx109_0
                          replace p109 := eq_true p109
                          replace q109 := eq_true q109
                          go_wp2
                          go_roundg k2
                          case measure => have := HK0.out; have := HK1.out; have := HK2.out; omega
                          case rel => exact ⟨(x7_2), (x8_2), (wrap64 (x10_2 - 1)), (by first | rfl | (simp; done) | (simp [*]; done)), H', ⟨by have := HK0.out; have := HK1.out; have := HK2.out; omega⟩, ⟨by (with_reducible repeat (first | apply Kd.R_alloc | apply Kd.R_drewN | apply Kd.R_drew)); exact HO_7.out⟩, ⟨by (with_reducible repeat (first | apply Kd.R_alloc | apply Kd.R_drewN | apply Kd.R_drew)); exact HO_8.out⟩, ⟨by repeat (first | (with_reducible first | exact HB.out | apply below_alloc | apply pw_below_drewN | apply below_drew1) | exact HB.out)⟩⟩
                      · rw [if_neg c10] at H
                        exact absurd H (by simp)
                    · rw [if_neg c9] at H
                      exact absurd H (by simp)
                  · rw [if_neg c8] at H
                    have c8b0 : decide (0 ≤ x10_2) = false := decide_eq_false c8
                    clear c8
                    have H' := Aside0.mk H
                    clear H
                    go_wp2
                    go_roundg k2
                    case measure => have := HK0.out; have := HK1.out; have := HK2.out; omega
                    case rel => exact ⟨(x7_2), (x8_2), (wrap64 (x9_1 - 1)), (by first | rfl | (simp; done) | (simp [*]; done)), H', ⟨by have := HK0.out; have := HK1.out; have := HK2.out; omega⟩, ⟨by (with_reducible repeat (first | apply Kd.R_alloc | apply Kd.R_drewN | apply Kd.R_drew)); exact HO_7.out⟩, ⟨by (with_reducible repeat (first | apply Kd.R_alloc | apply Kd.R_drewN | apply Kd.R_drew)); exact HO_8.out⟩, ⟨by repeat (first | (with_reducible first | exact HB.out | apply below_alloc | apply pw_below_drewN | apply below_drew1) | exact HB.out)⟩⟩
            · rw [if_neg c7] at H
              have c7b0 : decide (1 ≤ x9_1) = false := decide_eq_false c7
              clear c7
              simp only [Option.some.injEq, Prod.mk.injEq] at H
              obtain ⟨rfl, rfl⟩ := H
              go_wp2
              go_ret2
              exact ⟨_, _, rfl, Kd.R_lower HO_7.out (below_size HBW.out), Kd.R_lower HO_8.out (below_size HBW.out), below_step HBW.out HB.out⟩

/-! ### impl_EqualInts: function 124 -/
def impl_EqualInts.l0 : Nat → List Int → List Int → Int → Int → Option (Bool)
  | 0, _, _, _, _ => none
  | k + 1, x0, x1, x12, x13 => if x13 < x12 then (if 0 ≤ x13 then (if x13 < (x0.length : Int) then (if x13 < (x1.length : Int) then (if (rd x0 x13) = (rd x1 x13) then (impl_EqualInts.l0 k x0 x1 x12 (wrap64 (x13 + 1))) else (some false)) else (none)) else (none)) else (none)) else (some true)
def impl_EqualInts.f (k : Nat) (l0 : List Int) (l1 : List Int) : Option (Bool) := if (l0.length : Int) = (l1.length : Int) then (impl_EqualInts.l0 k l0 l1 (l0.length : Int) 0) else (some false)
theorem impl_EqualInts.mono_l : ∀ k, (∀ y0 y1 y2 y3, LeO (impl_EqualInts.l0 k y0 y1 y2 y3) (impl_EqualInts.l0 (k + 1) y0 y1 y2 y3))
  | 0 => fun _ _ _ _ r h => by simp [impl_EqualInts.l0] at h
  | k + 1 => by
    have ih0 := impl_EqualInts.mono_l k
    · intro y0 y1 y2 y3
      unfold impl_EqualInts.l0
      repeat' first
      | (with_reducible exact ih0 _ _ _ _)
      | (with_reducible exact LeO.refl _)
      | (with_reducible exact LeO.none _)
      | (with_reducible refine LeO.ite ?_ ?_)
      | (with_reducible refine LeO.bind ?_ (fun _ => ?_))
      | exact ih0 _ _ _ _
      | exact LeO.none _
      | refine LeO.ite ?_ ?_
      | refine LeO.bind ?_ (fun _ => ?_)
theorem impl_EqualInts.mono : ∀ a0 a1 k, LeO (impl_EqualInts.f k a0 a1) (impl_EqualInts.f (k + 1) a0 a1) := by
  intro a0 a1 k
  have ih0 := impl_EqualInts.mono_l k
  unfold impl_EqualInts.f
  repeat' first
      | (with_reducible exact ih0 _ _ _ _)
      | (with_reducible exact LeO.refl _)
      | (with_reducible exact LeO.none _)
      | (with_reducible refine LeO.ite ?_ ?_)
      | (with_reducible refine LeO.bind ?_ (fun _ => ?_))
      | exact ih0 _ _ _ _
      | exact LeO.none _
      | refine LeO.ite ?_ ?_
      | refine LeO.bind ?_ (fun _ => ?_)
set_option maxHeartbeats 8000000 in
set_option maxRecDepth 100000 in
theorem impl_EqualInts.calls (k : Nat) (A0 : Option Addr) (c0 : Nat) (l0 : List Int) (A1 : Option Addr) (c1 : Nat) (l1 : List Int) (r : Bool) (w : World) (hr0 : Kd.C (Kd.int .i64) w A0 l0.length l0) (hc0 : l0.length ≤ c0) (hr1 : Kd.C (Kd.int .i64) w A1 l1.length l1) (hc1 : l1.length ≤ c1) (h : impl_EqualInts.f k l0 l1 = some r) :
    Calls Try.prog 124 #[.slice A0 l0.length c0, .slice A1 l1.length c1] w fun e w' => e = .returned (.bool r) ∧ Drawn0 w w' := by
  have HR0 := Aside0.mk hr0
  have HC0 := Aside0.mk hc0
  clear hr0 hc0
  have HR1 := Aside0.mk hr1
  have HC1 := Aside0.mk hc1
  clear hr1 hc1
  have H : (if (l0.length : Int) = (l1.length : Int) then (impl_EqualInts.l0 k l0 l1 (l0.length : Int) 0) else (some false)) = some r := h
  clear h
  by_cases c3 : (l0.length : Int) = (l1.length : Int)
  · rw [if_pos c3] at H
    have c3b0 : ((l0.length : Int) == (l1.length : Int)) = true := beq_iff_eq.mpr c3
    have c3b1 : ((l0.length : Int) != (l1.length : Int)) = false := bne_eq_false_iff_eq.mpr c3
    have c3b2 : (l0.length == l1.length) = true := by first | simpa using c3 | (simp at c3 ⊢; omega)
    clear c3
    have H' := Aside0.mk H
    clear H
    go_enter Try.func124, Try.ntmps124
    go_wp2
    repeat (go_quiet (fail); try go_wp2)
    go_loopg [13] k (fun kq v13 w' => ∃ (x13_1 : Int), v13 = .int .i64 x13_1 ∧ Aside0 (impl_EqualInts.l0 kq l0 l1 (l0.length : Int) x13_1 = some r) ∧ Aside0 (kq ≤ k) ∧ Drawn0 w w')
    case atStart => exact ⟨(0), (by first | rfl | (simp; done) | (simp [*]; done)), H', ⟨Nat.le_refl _⟩, by repeat (first | exact Drawn0.refl _ | apply Drawn0.step)⟩
    case round =>
      clear H'
      try clear c1
      try clear p2
      try clear c3
      try clear c3b0
      try clear c3b1
      try clear c3b2
      obtain ⟨x13_1, rfl, HA, HK1, ⟨m1, rfl⟩⟩ := hrel
      cases gk with
      | zero => exact absurd HA.out (by simp [impl_EqualInts.l0])
      | succ k1 =>
        have H := HA.out
        clear HA
        simp only [impl_EqualInts.l0] at H
        by_cases c4 : x13_1 < (l0.length : Int)
        · rw [if_pos c4] at H
          have c4b0 : decide (x13_1 < (l0.length : Int)) = true := decide_eq_true c4
          clear c4
          by_cases c5 : 0 ≤ x13_1
          · rw [if_pos c5] at H
            have c5b0 : decide (0 ≤ x13_1) = true := decide_eq_true c5
            clear c5
            by_cases c6 : x13_1 < (l0.length : Int)
            · rw [if_pos c6] at H
              have c6b0 : decide (x13_1 < (l0.length : Int)) = true := decide_eq_true c6
              clear c6
              by_cases c7 : x13_1 < (l1.length : Int)
              · rw [if_pos c7] at H
                have c7b0 : decide (x13_1 < (l1.length : Int)) = true := decide_eq_true c7
                clear c7
                by_cases c8 : (rd l0 x13_1) = (rd l1 x13_1)
                · rw [if_pos c8] at H
                  have c8b0 : ((rd l0 x13_1) == (rd l1 x13_1)) = true := beq_iff_eq.mpr c8
                  have c8b1 : ((rd l0 x13_1) != (rd l1 x13_1)) = false := bne_eq_false_iff_eq.mpr c8
                  clear c8
                  have H' := Aside0.mk H
                  clear H
                  have p195 : 0 ≤ (x13_1 : Int) := of_decide_eq_true (by first | (with_reducible assumption) | assumption)
                  have q195 : x13_1 < (l0.length : Int) := of_decide_eq_true (by first | (with_reducible assumption) | assumption)
                  obtain ⟨ad195, e195, hx195_0⟩ := Kd.at_int HR0.out x13_1 p195 q195
                  cases e195
                  replace p195 := eq_true p195
                  replace q195 := eq_true q195
                  have p196 : 0 ≤ (x13_1 : Int) := of_decide_eq_true (by first | (with_reducible assumption) | assumption)
                  have q196 : x13_1 < (l1.length : Int) := of_decide_eq_true (by first | (with_reducible assumption) | assumption)
                  obtain ⟨ad196, e196, hx196_0⟩ := Kd.at_int HR1.out x13_1 p196 q196
                  cases e196
                  replace p196 := eq_true p196
                  replace q196 := eq_true q196
                  go_wp2
                  repeat (go_quiet (fail); try go_wp2)
                  go_roundg k1
                  case measure => have := HK1.out; omega
                  case rel => exact ⟨(wrap64 (x13_1 + 1)), (by first | rfl | (simp; done) | (simp [*]; done)), H', ⟨by have := HK1.out; omega⟩, by repeat (first | exact Drawn0.refl _ | apply Drawn0.step)⟩
                · rw [if_neg c8] at H
                  have c8b0 : ((rd l0 x13_1) == (rd l1 x13_1)) = false := beq_eq_false_iff_ne.mpr c8
                  have c8b1 : ((rd l0 x13_1) != (rd l1 x13_1)) = true := bne_iff_ne.mpr c8
                  obtain rfl := Option.some.inj H
                  have p195 : 0 ≤ (x13_1 : Int) := of_decide_eq_true (by first | (with_reducible assumption) | assumption)
                  have q195 : x13_1 < (l0.length : Int) := of_decide_eq_true (by first | (with_reducible assumption) | assumption)
                  obtain ⟨ad195, e195, hx195_0⟩ := Kd.at_int HR0.out x13_1 p195 q195
                  cases e195
                  replace p195 := eq_true p195
                  replace q195 := eq_true q195
                  have p196 : 0 ≤ (x13_1 : Int) := of_decide_eq_true (by first | (with_reducible assumption) | assumption)
                  have q196 : x13_1 < (l1.length : Int) := of_decide_eq_true (by first | (with_reducible assumption) | assumption)
                  obtain ⟨ad196, e196, hx196_0⟩ := Kd.at_int HR1.out x13_1 p196 q196
                  cases e196
                  replace p196 := eq_true p196
                  replace q196 := eq_true q196
                  go_wp2
                  repeat (go_quiet (fail); try go_wp2)
                  go_ret
                  exact ⟨by first | rfl | (simp; done) | (simp [*]; done), by repeat (first | exact Drawn0.refl _ | apply Drawn0.step)⟩
              · rw [if_neg c7] at H
                exact absurd H (by simp)
            · rw [if_neg c6] at H
              exact absurd H (by simp)
          · rw [if_neg c5] at H
            exact absurd H (by simp)
        · rw [if_neg c4] at H
          have c4b0 : decide (x13_1 < (l0.length : Int)) = false := decide_eq_false c4
          clear c4
          obtain rfl := Option.some.inj H
          go_wp2
          repeat (go_quiet (fail); try go_wp2)
          go_ret
          exact ⟨by first | rfl | (simp; done) | (simp [*]; done), by repeat (first | exact Drawn0.refl _ | apply Drawn0.step)⟩
  · rw [if_neg c3] at H
    have c3b0 : ((l0.length : Int) == (l1.length : Int)) = false := beq_eq_false_iff_ne.mpr c3
    have c3b1 : ((l0.length : Int) != (l1.length : Int)) = true := bne_iff_ne.mpr c3
    have c3b2 : (l0.length == l1.length) = false := by first | simpa using c3 | (simp at c3 ⊢; omega)
    obtain rfl := Option.some.inj H
    go_enter Try.func124, Try.ntmps124
    go_wp2
    repeat (go_quiet (fail); try go_wp2)
    go_ret
    exact ⟨by first | rfl | (simp; done) | (simp [*]; done), by repeat (first | exact Drawn0.refl _ | apply Drawn0.step)⟩

end Go.Proofs.Ytgnimdlakocpjaa.QFnExactBestFive
