/- In the seat Ytjnepcpjhhebaaa: what the functions compute that the law reaches, and that the machine's calls do just that; no condition beyond each contract's own. -/
import Derived.Test.YtjnepcpjhhebaaaQFnCallsx0
import Derived.Test.YtjnepcpjhhebaaaQFnCallsx1
import Derived.Test.YtjnepcpjhhebaaaQFnCallsx3
import Derived.Test.YtjnepcpjhhebaaaQFnCallsx4
import Derived.Test.YtjnepcpjhhebaaaQFnCallsx5
namespace Go.Proofs.Ytjnepcpjhhebaaa.QFnCalls
open Go.RowKit Go.Proofs.YtjnepcpjhhebaaaW.PrintWords Go.Proofs.YtjnepcpjhhebaaaW.PrintLast Go.Proofs.YtjnepcpjhhebaaaW.PrintMore
attribute [local go_sem] max2_int min2_int max_two min_two max_three min_three max_four min_four   -- for this text's walks alone
set_option linter.unusedVariables false
set_option linter.unusedSimpArgs false

/-! ### laws_FnCalls: function 5 -/
mutual
def laws_FnCalls.j0 : Nat → List Int → Int → List Int → List Int → Bool → Option (Bool)
  | 0, _, _, _, _, _ => none
  | k + 1, x0, x3, x4, x5, x37 => if x37 = true then (some false) else (laws_FnCalls.l0 k x0 x3 x4 x5 0)
def laws_FnCalls.l0 : Nat → List Int → Int → List Int → List Int → Int → Option (Bool)
  | 0, _, _, _, _, _ => none
  | k + 1, x0, x3, x4, x5, x6 => if x6 < (x5.length : Int) then ((some (([] : List Int) : List Int)).bind fun y253 => (if y253.length + x4.length < 17592186044416 then ((some (y253 ++ x4 : List Int)).bind fun y256 => (if 0 ≤ x6 then ((some (([rd x5 x6] : List Int) : List Int)).bind fun y260 => (if y256.length + y260.length < 17592186044416 then ((impl_IsCalls.f k x3 (y256 ++ y260)).bind fun t266 => (if t266 = true then (laws_FnCalls.l0 k x0 x3 x4 x5 (wrap64 (x6 + 1))) else (some false))) else (none))) else (none))) else (none))) else ((impl_Declarer.f k x3 x4).bind fun t267 => (if t267 ≥ 0 then (laws_FnCalls.l1 k x0 x3 x4 t267 (-1) 0) else ((spec_DrawHighBid.f k x0).bind fun t275 => ((impl_HighBid.f k t275).bind fun t278 => (some (decide (t278 ≥ 0)))))))
def laws_FnCalls.l1 : Nat → List Int → Int → List Int → Int → Int → Int → Option (Bool)
  | 0, _, _, _, _, _, _ => none
  | k + 1, x0, x3, x4, x7, x8, x9 => if x9 < (x4.length : Int) then (if 0 ≤ x9 then ((impl_HighBid.f k x4).bind fun t269 => (if (rd x4 x9) = t269 then (laws_FnCalls.l1 k x0 x3 x4 x7 x9 (wrap64 (x9 + 1))) else (laws_FnCalls.l1 k x0 x3 x4 x7 x8 (wrap64 (x9 + 1))))) else (none)) else (if x8 < 0 then (laws_FnCalls.j3 k x0 true) else (if x3 = 0 then (none) else (if (Int.tmod x8 x3) = x7 then ((impl_CallsEnd.f k x3 x4).bind fun t270 => (laws_FnCalls.j3 k x0 (!t270))) else (laws_FnCalls.j3 k x0 true))))
def laws_FnCalls.j3 : Nat → List Int → Bool → Option (Bool)
  | 0, _, _ => none
  | k + 1, x0, x89 => if x89 = true then (some false) else ((spec_DrawHighBid.f k x0).bind fun t271 => ((impl_HighBid.f k t271).bind fun t274 => (some (decide (t274 ≥ 0)))))
end
def laws_FnCalls.f (k : Nat) (l0 : List Int) : Option (Bool) := (laws_big.f l0).bind fun t242 => (if t242 = true then (some true) else ((spec_DrawLegalCalls.f k l0).bind fun bt243 => ((impl_LegalCalls.f k bt243.1 bt243.2).bind fun t247 => ((laws_ascends.f k t247).bind fun t250 => (if t250 = true then ((impl_IsCalls.f k bt243.1 bt243.2).bind fun t251 => (if t251 = true then ((impl_CallsEnd.f k bt243.1 bt243.2).bind fun t252 => (laws_FnCalls.j0 k l0 bt243.1 bt243.2 t247 ((decide ((t247.length : Int) > 0)) != (!t252)))) else (laws_FnCalls.j0 k l0 bt243.1 bt243.2 t247 ((decide ((t247.length : Int) > 0)) != false)))) else (laws_FnCalls.j0 k l0 bt243.1 bt243.2 t247 true))))))
theorem laws_FnCalls.mono_l : ∀ k, (∀ y0 y1 y2 y3 y4, LeO (laws_FnCalls.j0 k y0 y1 y2 y3 y4) (laws_FnCalls.j0 (k + 1) y0 y1 y2 y3 y4)) ∧ (∀ y0 y1 y2 y3 y4, LeO (laws_FnCalls.l0 k y0 y1 y2 y3 y4) (laws_FnCalls.l0 (k + 1) y0 y1 y2 y3 y4)) ∧ (∀ y0 y1 y2 y3 y4 y5, LeO (laws_FnCalls.l1 k y0 y1 y2 y3 y4 y5) (laws_FnCalls.l1 (k + 1) y0 y1 y2 y3 y4 y5)) ∧ (∀ y0 y1, LeO (laws_FnCalls.j3 k y0 y1) (laws_FnCalls.j3 (k + 1) y0 y1))
  | 0 => ⟨fun _ _ _ _ _ r h => by simp [laws_FnCalls.j0] at h, fun _ _ _ _ _ r h => by simp [laws_FnCalls.l0] at h, fun _ _ _ _ _ _ r h => by simp [laws_FnCalls.l1] at h, fun _ _ r h => by simp [laws_FnCalls.j3] at h⟩
  | k + 1 => by
    obtain ⟨ih0, ih1, ih2, ih3⟩ := laws_FnCalls.mono_l k
    refine ⟨?_, ?_, ?_, ?_⟩
    · intro y0 y1 y2 y3 y4
      unfold laws_FnCalls.j0
      repeat' first
      | (with_reducible exact ih0 _ _ _ _ _)
      | (with_reducible exact ih1 _ _ _ _ _)
      | (with_reducible exact ih2 _ _ _ _ _ _)
      | (with_reducible exact ih3 _ _)
      | (with_reducible exact impl_CallsEnd.mono _ _ _)
      | (with_reducible exact impl_Declarer.mono _ _ _)
      | (with_reducible exact impl_HighBid.mono _ _)
      | (with_reducible exact impl_IsCalls.mono _ _ _)
      | (with_reducible exact impl_LegalCalls.mono _ _ _)
      | (with_reducible exact laws_ascends.mono _ _)
      | (with_reducible exact spec_DrawHighBid.mono _ _)
      | (with_reducible exact spec_DrawLegalCalls.mono _ _)
      | (with_reducible exact LeO.refl _)
      | (with_reducible exact LeO.none _)
      | (with_reducible refine LeO.ite ?_ ?_)
      | (with_reducible refine LeO.bind ?_ (fun _ => ?_))
      | exact ih0 _ _ _ _ _
      | exact ih1 _ _ _ _ _
      | exact ih2 _ _ _ _ _ _
      | exact ih3 _ _
      | exact impl_CallsEnd.mono _ _ _
      | exact impl_Declarer.mono _ _ _
      | exact impl_HighBid.mono _ _
      | exact impl_IsCalls.mono _ _ _
      | exact impl_LegalCalls.mono _ _ _
      | exact laws_ascends.mono _ _
      | exact spec_DrawHighBid.mono _ _
      | exact spec_DrawLegalCalls.mono _ _
      | exact LeO.none _
      | refine LeO.ite ?_ ?_
      | refine LeO.bind ?_ (fun _ => ?_)
    · intro y0 y1 y2 y3 y4
      unfold laws_FnCalls.l0
      repeat' first
      | (with_reducible exact ih0 _ _ _ _ _)
      | (with_reducible exact ih1 _ _ _ _ _)
      | (with_reducible exact ih2 _ _ _ _ _ _)
      | (with_reducible exact ih3 _ _)
      | (with_reducible exact impl_CallsEnd.mono _ _ _)
      | (with_reducible exact impl_Declarer.mono _ _ _)
      | (with_reducible exact impl_HighBid.mono _ _)
      | (with_reducible exact impl_IsCalls.mono _ _ _)
      | (with_reducible exact impl_LegalCalls.mono _ _ _)
      | (with_reducible exact laws_ascends.mono _ _)
      | (with_reducible exact spec_DrawHighBid.mono _ _)
      | (with_reducible exact spec_DrawLegalCalls.mono _ _)
      | (with_reducible exact LeO.refl _)
      | (with_reducible exact LeO.none _)
      | (with_reducible refine LeO.ite ?_ ?_)
      | (with_reducible refine LeO.bind ?_ (fun _ => ?_))
      | exact ih0 _ _ _ _ _
      | exact ih1 _ _ _ _ _
      | exact ih2 _ _ _ _ _ _
      | exact ih3 _ _
      | exact impl_CallsEnd.mono _ _ _
      | exact impl_Declarer.mono _ _ _
      | exact impl_HighBid.mono _ _
      | exact impl_IsCalls.mono _ _ _
      | exact impl_LegalCalls.mono _ _ _
      | exact laws_ascends.mono _ _
      | exact spec_DrawHighBid.mono _ _
      | exact spec_DrawLegalCalls.mono _ _
      | exact LeO.none _
      | refine LeO.ite ?_ ?_
      | refine LeO.bind ?_ (fun _ => ?_)
    · intro y0 y1 y2 y3 y4 y5
      unfold laws_FnCalls.l1
      repeat' first
      | (with_reducible exact ih0 _ _ _ _ _)
      | (with_reducible exact ih1 _ _ _ _ _)
      | (with_reducible exact ih2 _ _ _ _ _ _)
      | (with_reducible exact ih3 _ _)
      | (with_reducible exact impl_CallsEnd.mono _ _ _)
      | (with_reducible exact impl_Declarer.mono _ _ _)
      | (with_reducible exact impl_HighBid.mono _ _)
      | (with_reducible exact impl_IsCalls.mono _ _ _)
      | (with_reducible exact impl_LegalCalls.mono _ _ _)
      | (with_reducible exact laws_ascends.mono _ _)
      | (with_reducible exact spec_DrawHighBid.mono _ _)
      | (with_reducible exact spec_DrawLegalCalls.mono _ _)
      | (with_reducible exact LeO.refl _)
      | (with_reducible exact LeO.none _)
      | (with_reducible refine LeO.ite ?_ ?_)
      | (with_reducible refine LeO.bind ?_ (fun _ => ?_))
      | exact ih0 _ _ _ _ _
      | exact ih1 _ _ _ _ _
      | exact ih2 _ _ _ _ _ _
      | exact ih3 _ _
      | exact impl_CallsEnd.mono _ _ _
      | exact impl_Declarer.mono _ _ _
      | exact impl_HighBid.mono _ _
      | exact impl_IsCalls.mono _ _ _
      | exact impl_LegalCalls.mono _ _ _
      | exact laws_ascends.mono _ _
      | exact spec_DrawHighBid.mono _ _
      | exact spec_DrawLegalCalls.mono _ _
      | exact LeO.none _
      | refine LeO.ite ?_ ?_
      | refine LeO.bind ?_ (fun _ => ?_)
    · intro y0 y1
      unfold laws_FnCalls.j3
      repeat' first
      | (with_reducible exact ih0 _ _ _ _ _)
      | (with_reducible exact ih1 _ _ _ _ _)
      | (with_reducible exact ih2 _ _ _ _ _ _)
      | (with_reducible exact ih3 _ _)
      | (with_reducible exact impl_CallsEnd.mono _ _ _)
      | (with_reducible exact impl_Declarer.mono _ _ _)
      | (with_reducible exact impl_HighBid.mono _ _)
      | (with_reducible exact impl_IsCalls.mono _ _ _)
      | (with_reducible exact impl_LegalCalls.mono _ _ _)
      | (with_reducible exact laws_ascends.mono _ _)
      | (with_reducible exact spec_DrawHighBid.mono _ _)
      | (with_reducible exact spec_DrawLegalCalls.mono _ _)
      | (with_reducible exact LeO.refl _)
      | (with_reducible exact LeO.none _)
      | (with_reducible refine LeO.ite ?_ ?_)
      | (with_reducible refine LeO.bind ?_ (fun _ => ?_))
      | exact ih0 _ _ _ _ _
      | exact ih1 _ _ _ _ _
      | exact ih2 _ _ _ _ _ _
      | exact ih3 _ _
      | exact impl_CallsEnd.mono _ _ _
      | exact impl_Declarer.mono _ _ _
      | exact impl_HighBid.mono _ _
      | exact impl_IsCalls.mono _ _ _
      | exact impl_LegalCalls.mono _ _ _
      | exact laws_ascends.mono _ _
      | exact spec_DrawHighBid.mono _ _
      | exact spec_DrawLegalCalls.mono _ _
      | exact LeO.none _
      | refine LeO.ite ?_ ?_
      | refine LeO.bind ?_ (fun _ => ?_)
theorem laws_FnCalls.mono : ∀ a0 k, LeO (laws_FnCalls.f k a0) (laws_FnCalls.f (k + 1) a0) := by
  intro a0 k
  obtain ⟨ih0, ih1, ih2, ih3⟩ := laws_FnCalls.mono_l k
  unfold laws_FnCalls.f
  repeat' first
      | (with_reducible exact ih0 _ _ _ _ _)
      | (with_reducible exact ih1 _ _ _ _ _)
      | (with_reducible exact ih2 _ _ _ _ _ _)
      | (with_reducible exact ih3 _ _)
      | (with_reducible exact impl_CallsEnd.mono _ _ _)
      | (with_reducible exact impl_Declarer.mono _ _ _)
      | (with_reducible exact impl_HighBid.mono _ _)
      | (with_reducible exact impl_IsCalls.mono _ _ _)
      | (with_reducible exact impl_LegalCalls.mono _ _ _)
      | (with_reducible exact laws_ascends.mono _ _)
      | (with_reducible exact spec_DrawHighBid.mono _ _)
      | (with_reducible exact spec_DrawLegalCalls.mono _ _)
      | (with_reducible exact LeO.refl _)
      | (with_reducible exact LeO.none _)
      | (with_reducible refine LeO.ite ?_ ?_)
      | (with_reducible refine LeO.bind ?_ (fun _ => ?_))
      | exact ih0 _ _ _ _ _
      | exact ih1 _ _ _ _ _
      | exact ih2 _ _ _ _ _ _
      | exact ih3 _ _
      | exact impl_CallsEnd.mono _ _ _
      | exact impl_Declarer.mono _ _ _
      | exact impl_HighBid.mono _ _
      | exact impl_IsCalls.mono _ _ _
      | exact impl_LegalCalls.mono _ _ _
      | exact laws_ascends.mono _ _
      | exact spec_DrawHighBid.mono _ _
      | exact spec_DrawLegalCalls.mono _ _
      | exact LeO.none _
      | refine LeO.ite ?_ ?_
      | refine LeO.bind ?_ (fun _ => ?_)
def laws_FnCalls.T10 : Bool × List (List Nat × List Nat) := (true, [([], []), ([], []), ([], []), ([1, 2], [1, 2]), ([], []), ([], []), ([4, 5], [4, 5]), ([6], [6]), ([7], [7]), ([3, 8, 3], [3, 8]), ([0, 9, 9], [0, 9]), ([10], [10])])
def laws_FnCalls.B10 : List Nat := [0, 0, 0, 6, 0, 0, 48, 112, 240, 510, 1023, 2047]
theorem laws_FnCalls.tab10 : rtab .any (opsOf Try.f5 10) = laws_FnCalls.T10 := by kernel_rfl
theorem laws_FnCalls.bits10 : waitsOk laws_FnCalls.T10.2 laws_FnCalls.B10 = true := by kernel_rfl
set_option maxHeartbeats 8000000 in
set_option maxRecDepth 100000 in
theorem laws_FnCalls.calls (k : Nat) (A0 : Option Addr) (c0 : Nat) (l0 : List Int) (r : Bool) (w : World) (hr0 : Kd.C (Kd.int .u8) w A0 l0.length l0) (hc0 : l0.length ≤ c0) (h : laws_FnCalls.f k l0 = some r) :
    Calls Try.prog 5 #[.slice A0 l0.length c0] w fun e w' => e = .returned (.bool r) ∧ Below w.heap.size w w' := by
  have HR0 := Aside0.mk hr0
  have HC0 := Aside0.mk hc0
  clear hr0 hc0
  have HB := Aside0.mk (Below.refl w.heap.size w)
  have H : ((laws_big.f l0).bind fun t242 => (if t242 = true then (some true) else ((spec_DrawLegalCalls.f k l0).bind fun bt243 => ((impl_LegalCalls.f k bt243.1 bt243.2).bind fun t247 => ((laws_ascends.f k t247).bind fun t250 => (if t250 = true then ((impl_IsCalls.f k bt243.1 bt243.2).bind fun t251 => (if t251 = true then ((impl_CallsEnd.f k bt243.1 bt243.2).bind fun t252 => (laws_FnCalls.j0 k l0 bt243.1 bt243.2 t247 ((decide ((t247.length : Int) > 0)) != (!t252)))) else (laws_FnCalls.j0 k l0 bt243.1 bt243.2 t247 ((decide ((t247.length : Int) > 0)) != false)))) else (laws_FnCalls.j0 k l0 bt243.1 bt243.2 t247 true))))))) = some r := h
  clear h
  replace H := Option.bind_eq_some_iff.mp H
  obtain ⟨t242, A20, H⟩ := H
  replace H : (if t242 = true then (some true) else ((spec_DrawLegalCalls.f k l0).bind fun bt243 => ((impl_LegalCalls.f k bt243.1 bt243.2).bind fun t247 => ((laws_ascends.f k t247).bind fun t250 => (if t250 = true then ((impl_IsCalls.f k bt243.1 bt243.2).bind fun t251 => (if t251 = true then ((impl_CallsEnd.f k bt243.1 bt243.2).bind fun t252 => (laws_FnCalls.j0 k l0 bt243.1 bt243.2 t247 ((decide ((t247.length : Int) > 0)) != (!t252)))) else (laws_FnCalls.j0 k l0 bt243.1 bt243.2 t247 ((decide ((t247.length : Int) > 0)) != false)))) else (laws_FnCalls.j0 k l0 bt243.1 bt243.2 t247 true)))))) = some r := H
  have A2 := Aside0.mk A20
  clear A20
  by_cases c3 : t242 = true
  · subst c3
    have H1 : (some true) = some r := by rw [if_pos rfl] at H; exact H
    clear H
    have H := H1
    clear H1
    obtain rfl := Option.some.inj H
    go_enter Try.func5, Try.ntmps5
    go_wp2_with (first | ((with_reducible refine gate_callee (f := 21) rfl ?_); refine goesL_ (some 11) rfl rfl Try.func21 (by kernel_rfl) rfl #[.slice A0 l0.length c0] rfl (by (try simp only [List.map_toArray, List.map_cons, List.map_nil]); first | done | rfl | (simp only [List.length_drop, List.length_take]; rfl)) ?_; (with_reducible refine (laws_big.calls _ _ l0 true _ ?side1 ?side2 A2.out).mono ?_); (case side1 => repeat (first | exact HR0.out | (with_reducible refine Kd.C_alloc ?_ _) | (with_reducible refine Kd.C_drewN ?_ _) | (with_reducible refine Kd.C_drew ?_))); (case side2 => exact HC0.out); rintro e w' ⟨rfl, ⟨nd, rfl⟩⟩; refine ⟨_, rfl, ?_⟩))
    go_ret
    exact ⟨by first | rfl | (simp [errW_none, errW_some] <;> rfl) | (simp [*, errW_none, errW_some] <;> rfl), by repeat (first | (with_reducible first | exact HB.out | apply below_alloc | apply pw_below_drewN | apply below_drew1) | exact HB.out)⟩
  · replace c3 := Bool.eq_false_iff.mpr c3
    subst c3
    have H1 : ((spec_DrawLegalCalls.f k l0).bind fun bt243 => ((impl_LegalCalls.f k bt243.1 bt243.2).bind fun t247 => ((laws_ascends.f k t247).bind fun t250 => (if t250 = true then ((impl_IsCalls.f k bt243.1 bt243.2).bind fun t251 => (if t251 = true then ((impl_CallsEnd.f k bt243.1 bt243.2).bind fun t252 => (laws_FnCalls.j0 k l0 bt243.1 bt243.2 t247 ((decide ((t247.length : Int) > 0)) != (!t252)))) else (laws_FnCalls.j0 k l0 bt243.1 bt243.2 t247 ((decide ((t247.length : Int) > 0)) != false)))) else (laws_FnCalls.j0 k l0 bt243.1 bt243.2 t247 true))))) = some r := by rw [if_neg (show ¬ (false = true) by decide)] at H; exact H
    clear H
    have H := H1
    clear H1
    replace H := Option.bind_eq_some_iff.mp H
    obtain ⟨⟨t243, t244⟩, A40, H⟩ := H
    replace H : ((impl_LegalCalls.f k t243 t244).bind fun t247 => ((laws_ascends.f k t247).bind fun t250 => (if t250 = true then ((impl_IsCalls.f k t243 t244).bind fun t251 => (if t251 = true then ((impl_CallsEnd.f k t243 t244).bind fun t252 => (laws_FnCalls.j0 k l0 t243 t244 t247 ((decide ((t247.length : Int) > 0)) != (!t252)))) else (laws_FnCalls.j0 k l0 t243 t244 t247 ((decide ((t247.length : Int) > 0)) != false)))) else (laws_FnCalls.j0 k l0 t243 t244 t247 true)))) = some r := H
    have A4 := Aside0.mk A40
    clear A40
    replace H := Option.bind_eq_some_iff.mp H
    obtain ⟨t247, A50, H⟩ := H
    replace H : ((laws_ascends.f k t247).bind fun t250 => (if t250 = true then ((impl_IsCalls.f k t243 t244).bind fun t251 => (if t251 = true then ((impl_CallsEnd.f k t243 t244).bind fun t252 => (laws_FnCalls.j0 k l0 t243 t244 t247 ((decide ((t247.length : Int) > 0)) != (!t252)))) else (laws_FnCalls.j0 k l0 t243 t244 t247 ((decide ((t247.length : Int) > 0)) != false)))) else (laws_FnCalls.j0 k l0 t243 t244 t247 true))) = some r := H
    have A5 := Aside0.mk A50
    clear A50
    have HC6 := Aside0.mk H
    clear H
    go_enter Try.func5, Try.ntmps5
    go_upto_region 5 with (first | ((with_reducible refine gate_callee (f := 21) rfl ?_); refine goesL_ (some 11) rfl rfl Try.func21 (by kernel_rfl) rfl #[.slice A0 l0.length c0] rfl (by (try simp only [List.map_toArray, List.map_cons, List.map_nil]); first | done | rfl | (simp only [List.length_drop, List.length_take]; rfl)) ?_; (with_reducible refine (laws_big.calls _ _ l0 false _ ?side1 ?side2 A2.out).mono ?_); (case side1 => repeat (first | exact HR0.out | (with_reducible refine Kd.C_alloc ?_ _) | (with_reducible refine Kd.C_drewN ?_ _) | (with_reducible refine Kd.C_drew ?_))); (case side2 => exact HC0.out); rintro e w' ⟨rfl, ⟨nd, rfl⟩⟩; refine ⟨_, rfl, ?_⟩) | ((with_reducible refine gate_callee (f := 31) rfl ?_); refine goesL_ (some 14) rfl rfl Try.func31 (by kernel_rfl) rfl #[.slice A0 l0.length c0] rfl (by (try simp only [List.map_toArray, List.map_cons, List.map_nil]); first | done | rfl | (simp only [List.length_drop, List.length_take]; rfl)) ?_; (with_reducible refine (spec_DrawLegalCalls.calls k _ _ l0 t243 t244 _ ?side1 ?side2 A4.out).mono ?_); (case side1 => repeat (first | exact HR0.out | (with_reducible refine Kd.C_alloc ?_ _) | (with_reducible refine Kd.C_drewN ?_ _) | (with_reducible refine Kd.C_drew ?_))); (case side2 => exact HC0.out); rintro e w7 ⟨v245, rfl, ho0, hb⟩; refine ⟨_, rfl, ?_⟩; have n0_ := Aside0.mk (Kd.R_lower ho0 (below_size (by repeat (first | (with_reducible first | exact HB.out | apply below_alloc | apply pw_below_drewN | apply below_drew1) | exact HB.out)))); have n1_ := Aside0.mk (below_step (by repeat (first | (with_reducible first | exact HB.out | apply below_alloc | apply pw_below_drewN | apply below_drew1) | exact HB.out)) hb); clear HB; have HO246 := n0_; have HB := n1_; clear n0_ n1_; (try clear hb); (try clear hb2); (try clear hk); (try clear hi); (try clear ho0); obtain ⟨Ao8, co8, eo8⟩ := Kd.R_slice HO246.out; subst eo8) | ((with_reducible refine gate_callee (f := 32) rfl ?_); refine goesL_ (some 19) rfl rfl Try.func32 (by kernel_rfl) rfl #[.int .i64 t243, .slice Ao8 t244.length co8] rfl (by (try simp only [List.map_toArray, List.map_cons, List.map_nil]); first | done | rfl | (simp only [List.length_drop, List.length_take]; rfl)) ?_; (with_reducible refine (impl_LegalCalls.calls k t243 _ _ t244 t247 _ ?side1 ?side2 A5.out).mono ?_); (case side1 => repeat (first | exact (Kd.R_reads' HO246.out).2.2 | (with_reducible refine Kd.C_alloc ?_ _) | (with_reducible refine Kd.C_drewN ?_ _) | (with_reducible refine Kd.C_drew ?_))); (case side2 => exact (Kd.R_reads' HO246.out).2.1); rintro e w9 ⟨v248, rfl, ho0, hb⟩; refine ⟨_, rfl, ?_⟩; have n0_ := Aside0.mk (Kd.R_elder' (by (with_reducible repeat (first | apply Kd.R_alloc | apply Kd.R_drewN | apply Kd.R_drew)); exact HO246.out) (Kd.R_base ho0) hb); have n1_ := Aside0.mk (Kd.R_lower (Kd.R_new' ho0 (Kd.R_lt (by (with_reducible repeat (first | apply Kd.R_alloc | apply Kd.R_drewN | apply Kd.R_drew)); exact HO246.out))) (below_size (by repeat (first | (with_reducible first | exact HB.out | apply below_alloc | apply pw_below_drewN | apply below_drew1) | exact HB.out)))); have n2_ := Aside0.mk (below_step (by repeat (first | (with_reducible first | exact HB.out | apply below_alloc | apply pw_below_drewN | apply below_drew1) | exact HB.out)) hb); clear HO246; clear HB; have HO246 := n0_; have HO249 := n1_; have HB := n2_; clear n0_ n1_ n2_; (try clear hb); (try clear hb2); (try clear hk); (try clear hi); (try clear ho0)))
    (try simp only [Act.put, List.setIfInBounds_toArray, List.set_cons_zero, List.set_cons_succ])
    go_cut [37] (fun v37 wc => ∃ (kq : Nat) (x37_5 : Bool), v37 = .bool x37_5 ∧ Aside0 (laws_FnCalls.j0 kq l0 t243 t244 t247 x37_5 = some r) ∧ Aside0 (kq ≤ k) ∧ Aside0 (Kd.R (Kd.int .i64) 3 wc w.heap.size (fun k_ => some k_ ≠ (v248 : Value).ownBlock) (.slice Ao8 t244.length co8) t244) ∧ Aside0 (Kd.R (Kd.int .i64) 3 wc w.heap.size (fun k_ => some k_ ≠ ((.slice Ao8 t244.length co8) : Value).ownBlock) v248 t247) ∧ Aside0 (Below w.heap.size w wc))
    case first =>
      have H := HC6.out
      clear HC6
      replace H := Option.bind_eq_some_iff.mp H
      obtain ⟨t250, A100, H⟩ := H
      replace H : (if t250 = true then ((impl_IsCalls.f k t243 t244).bind fun t251 => (if t251 = true then ((impl_CallsEnd.f k t243 t244).bind fun t252 => (laws_FnCalls.j0 k l0 t243 t244 t247 ((decide ((t247.length : Int) > 0)) != (!t252)))) else (laws_FnCalls.j0 k l0 t243 t244 t247 ((decide ((t247.length : Int) > 0)) != false)))) else (laws_FnCalls.j0 k l0 t243 t244 t247 true)) = some r := H
      have A10 := Aside0.mk A100
      clear A100
      by_cases c11 : t250 = true
      · subst c11
        have H1 : ((impl_IsCalls.f k t243 t244).bind fun t251 => (if t251 = true then ((impl_CallsEnd.f k t243 t244).bind fun t252 => (laws_FnCalls.j0 k l0 t243 t244 t247 ((decide ((t247.length : Int) > 0)) != (!t252)))) else (laws_FnCalls.j0 k l0 t243 t244 t247 ((decide ((t247.length : Int) > 0)) != false)))) = some r := by rw [if_pos rfl] at H; exact H
        clear H
        have H := H1
        clear H1
        replace H := Option.bind_eq_some_iff.mp H
        obtain ⟨t251, A120, H⟩ := H
        replace H : (if t251 = true then ((impl_CallsEnd.f k t243 t244).bind fun t252 => (laws_FnCalls.j0 k l0 t243 t244 t247 ((decide ((t247.length : Int) > 0)) != (!t252)))) else (laws_FnCalls.j0 k l0 t243 t244 t247 ((decide ((t247.length : Int) > 0)) != false))) = some r := H
        have A12 := Aside0.mk A120
        clear A120
        by_cases c13 : t251 = true
        · subst c13
          have H1 : ((impl_CallsEnd.f k t243 t244).bind fun t252 => (laws_FnCalls.j0 k l0 t243 t244 t247 ((decide ((t247.length : Int) > 0)) != (!t252)))) = some r := by rw [if_pos rfl] at H; exact H
          clear H
          have H := H1
          clear H1
          replace H := Option.bind_eq_some_iff.mp H
          obtain ⟨t252, A140, H⟩ := H
          replace H : (laws_FnCalls.j0 k l0 t243 t244 t247 ((decide ((t247.length : Int) > 0)) != (!t252))) = some r := H
          have A14 := Aside0.mk A140
          clear A140
          have H' := Aside0.mk H
          clear H
          obtain ⟨Ao15, co15, eo15⟩ := Kd.R_slice HO249.out
          subst eo15
          go_wp2_with (first | ((with_reducible refine gate_callee (f := 33) rfl ?_); refine goesL_ (some 21) rfl rfl Try.func33 (by kernel_rfl) rfl #[.slice Ao15 t247.length co15] rfl (by (try simp only [List.map_toArray, List.map_cons, List.map_nil]); first | done | rfl | (simp only [List.length_drop, List.length_take]; rfl)) ?_; (with_reducible refine (laws_ascends.calls k _ _ t247 true _ ?side1 ?side2 A10.out).mono ?_); (case side1 => repeat (first | exact (Kd.R_reads' HO249.out).2.2 | (with_reducible refine Kd.C_alloc ?_ _) | (with_reducible refine Kd.C_drewN ?_ _) | (with_reducible refine Kd.C_drew ?_))); (case side2 => exact (Kd.R_reads' HO249.out).2.1); rintro e w' ⟨rfl, ⟨nd, rfl⟩⟩; refine ⟨_, rfl, ?_⟩) | (go_at_call 34; (with_reducible refine (impl_IsCalls.calls k t243 _ _ t244 true _ ?side1 ?side2 A12.out).mono ?_); (case side1 => repeat (first | exact (Kd.R_reads' HO246.out).2.2 | (with_reducible refine Kd.C_alloc ?_ _) | (with_reducible refine Kd.C_drewN ?_ _) | (with_reducible refine Kd.C_drew ?_))); (case side2 => exact (Kd.R_reads' HO246.out).2.1); rintro e w16 ⟨rfl, hb⟩; have n0_ := Aside0.mk (Kd.R_below (by (with_reducible repeat (first | apply Kd.R_alloc | apply Kd.R_drewN | apply Kd.R_drew)); exact HO246.out) hb); have n1_ := Aside0.mk (Kd.R_below (by (with_reducible repeat (first | apply Kd.R_alloc | apply Kd.R_drewN | apply Kd.R_drew)); exact HO249.out) hb); have n2_ := Aside0.mk (below_step (by repeat (first | (with_reducible first | exact HB.out | apply below_alloc | apply pw_below_drewN | apply below_drew1) | exact HB.out)) hb); clear HO246; clear HO249; clear HB; have HO246 := n0_; have HO249 := n1_; have HB := n2_; clear n0_ n1_ n2_; (try clear hb); (try clear hb2); (try clear hk); (try clear hi)) | (go_at_call 35; (with_reducible refine (impl_CallsEnd.calls k t243 _ _ t244 t252 _ ?side1 ?side2 A14.out).mono ?_); (case side1 => repeat (first | exact (Kd.R_reads' HO246.out).2.2 | (with_reducible refine Kd.C_alloc ?_ _) | (with_reducible refine Kd.C_drewN ?_ _) | (with_reducible refine Kd.C_drew ?_))); (case side2 => exact (Kd.R_reads' HO246.out).2.1); rintro e w' ⟨rfl, ⟨nd, rfl⟩⟩))
          go_meet
          case rel => exact ⟨_, (((decide ((t247.length : Int) > 0)) != (!t252))), (by first | rfl | (simp; done) | (simp [*]; done) | (simp; exact (by intro p q; cases p <;> cases q <;> rfl : ∀ p q : Bool, (p == !q) = (p != q)) _ _)), H', ⟨by first | omega | exact Nat.le_refl _⟩, ⟨by (with_reducible repeat (first | apply Kd.R_alloc | apply Kd.R_drewN | apply Kd.R_drew)); exact Kd.R_mono HO246.out (fun _ hk => by first | exact hk.2 | exact hk)⟩, ⟨by (with_reducible repeat (first | apply Kd.R_alloc | apply Kd.R_drewN | apply Kd.R_drew)); exact Kd.R_mono HO249.out (fun _ hk => by first | exact hk.2 | exact hk)⟩, ⟨by repeat (first | (with_reducible first | exact HB.out | apply below_alloc | apply pw_below_drewN | apply below_drew1) | exact HB.out)⟩⟩
        · replace c13 := Bool.eq_false_iff.mpr c13
          subst c13
          have H1 : (laws_FnCalls.j0 k l0 t243 t244 t247 ((decide ((t247.length : Int) > 0)) != false)) = some r := by rw [if_neg (show ¬ (false = true) by decide)] at H; exact H
          clear H
          have H := H1
          clear H1
          have H' := Aside0.mk H
          clear H
          obtain ⟨Ao17, co17, eo17⟩ := Kd.R_slice HO249.out
          subst eo17
          go_wp2_with (first | ((with_reducible refine gate_callee (f := 33) rfl ?_); refine goesL_ (some 21) rfl rfl Try.func33 (by kernel_rfl) rfl #[.slice Ao17 t247.length co17] rfl (by (try simp only [List.map_toArray, List.map_cons, List.map_nil]); first | done | rfl | (simp only [List.length_drop, List.length_take]; rfl)) ?_; (with_reducible refine (laws_ascends.calls k _ _ t247 true _ ?side1 ?side2 A10.out).mono ?_); (case side1 => repeat (first | exact (Kd.R_reads' HO249.out).2.2 | (with_reducible refine Kd.C_alloc ?_ _) | (with_reducible refine Kd.C_drewN ?_ _) | (with_reducible refine Kd.C_drew ?_))); (case side2 => exact (Kd.R_reads' HO249.out).2.1); rintro e w' ⟨rfl, ⟨nd, rfl⟩⟩; refine ⟨_, rfl, ?_⟩) | (go_at_call 34; (with_reducible refine (impl_IsCalls.calls k t243 _ _ t244 false _ ?side1 ?side2 A12.out).mono ?_); (case side1 => repeat (first | exact (Kd.R_reads' HO246.out).2.2 | (with_reducible refine Kd.C_alloc ?_ _) | (with_reducible refine Kd.C_drewN ?_ _) | (with_reducible refine Kd.C_drew ?_))); (case side2 => exact (Kd.R_reads' HO246.out).2.1); rintro e w18 ⟨rfl, hb⟩; have n0_ := Aside0.mk (Kd.R_below (by (with_reducible repeat (first | apply Kd.R_alloc | apply Kd.R_drewN | apply Kd.R_drew)); exact HO246.out) hb); have n1_ := Aside0.mk (Kd.R_below (by (with_reducible repeat (first | apply Kd.R_alloc | apply Kd.R_drewN | apply Kd.R_drew)); exact HO249.out) hb); have n2_ := Aside0.mk (below_step (by repeat (first | (with_reducible first | exact HB.out | apply below_alloc | apply pw_below_drewN | apply below_drew1) | exact HB.out)) hb); clear HO246; clear HO249; clear HB; have HO246 := n0_; have HO249 := n1_; have HB := n2_; clear n0_ n1_ n2_; (try clear hb); (try clear hb2); (try clear hk); (try clear hi)))
          go_meet
          case rel => exact ⟨_, (((decide ((t247.length : Int) > 0)) != false)), (by first | rfl | (simp; done) | (simp [*]; done)), H', ⟨by first | omega | exact Nat.le_refl _⟩, ⟨by (with_reducible repeat (first | apply Kd.R_alloc | apply Kd.R_drewN | apply Kd.R_drew)); exact Kd.R_mono HO246.out (fun _ hk => by first | exact hk.2 | exact hk)⟩, ⟨by (with_reducible repeat (first | apply Kd.R_alloc | apply Kd.R_drewN | apply Kd.R_drew)); exact Kd.R_mono HO249.out (fun _ hk => by first | exact hk.2 | exact hk)⟩, ⟨by repeat (first | (with_reducible first | exact HB.out | apply below_alloc | apply pw_below_drewN | apply below_drew1) | exact HB.out)⟩⟩
      · replace c11 := Bool.eq_false_iff.mpr c11
        subst c11
        have H1 : (laws_FnCalls.j0 k l0 t243 t244 t247 true) = some r := by rw [if_neg (show ¬ (false = true) by decide)] at H; exact H
        clear H
        have H := H1
        clear H1
        have H' := Aside0.mk H
        clear H
        obtain ⟨Ao19, co19, eo19⟩ := Kd.R_slice HO249.out
        subst eo19
        go_wp2_with (first | ((with_reducible refine gate_callee (f := 33) rfl ?_); refine goesL_ (some 21) rfl rfl Try.func33 (by kernel_rfl) rfl #[.slice Ao19 t247.length co19] rfl (by (try simp only [List.map_toArray, List.map_cons, List.map_nil]); first | done | rfl | (simp only [List.length_drop, List.length_take]; rfl)) ?_; (with_reducible refine (laws_ascends.calls k _ _ t247 false _ ?side1 ?side2 A10.out).mono ?_); (case side1 => repeat (first | exact (Kd.R_reads' HO249.out).2.2 | (with_reducible refine Kd.C_alloc ?_ _) | (with_reducible refine Kd.C_drewN ?_ _) | (with_reducible refine Kd.C_drew ?_))); (case side2 => exact (Kd.R_reads' HO249.out).2.1); rintro e w' ⟨rfl, ⟨nd, rfl⟩⟩; refine ⟨_, rfl, ?_⟩))
        go_meet
        case rel => exact ⟨_, (true), (by first | rfl | (simp; done) | (simp [*]; done)), H', ⟨by first | omega | exact Nat.le_refl _⟩, ⟨by (with_reducible repeat (first | apply Kd.R_alloc | apply Kd.R_drewN | apply Kd.R_drew)); exact Kd.R_mono HO246.out (fun _ hk => by first | exact hk.2 | exact hk)⟩, ⟨by (with_reducible repeat (first | apply Kd.R_alloc | apply Kd.R_drewN | apply Kd.R_drew)); exact Kd.R_mono HO249.out (fun _ hk => by first | exact hk.2 | exact hk)⟩, ⟨by repeat (first | (with_reducible first | exact HB.out | apply below_alloc | apply pw_below_drewN | apply below_drew1) | exact HB.out)⟩⟩
    case rest =>
      clear HC6
      try clear c1
      try clear c2
      try clear p2
      try clear c3
      try clear c5
      try clear c11
      try clear c13
      obtain ⟨kq, x37_5, rfl, HA, HJ5, HO_4, HO_5, HB⟩ := hcut
      cases kq with
      | zero => exact absurd HA.out (by simp [laws_FnCalls.j0])
      | succ kj5 =>
        have H := HA.out
        clear HA
        simp only [laws_FnCalls.j0] at H
        by_cases c20 : x37_5 = true
        · subst c20
          have H1 : (some false) = some r := by rw [if_pos rfl] at H; exact H
          clear H
          have H := H1
          clear H1
          obtain rfl := Option.some.inj H
          go_wp2
          go_ret
          exact ⟨by first | rfl | (simp [errW_none, errW_some] <;> rfl) | (simp [*, errW_none, errW_some] <;> rfl), by repeat (first | (with_reducible first | exact HB.out | apply below_alloc | apply pw_below_drewN | apply below_drew1) | exact HB.out)⟩
        · replace c20 := Bool.eq_false_iff.mpr c20
          subst c20
          have H1 : (laws_FnCalls.l0 kj5 l0 t243 t244 t247 0) = some r := by rw [if_neg (show ¬ (false = true) by decide)] at H; exact H
          clear H
          have H := H1
          clear H1
          have H' := Aside0.mk H
          clear H
          go_wp2
          go_loopg [6] kj5 (fun kq v6 w' => ∃ (x6_2 : Int), v6 = .int .i64 x6_2 ∧ Aside0 (laws_FnCalls.l0 kq l0 t243 t244 t247 x6_2 = some r) ∧ Aside0 (kq ≤ kj5) ∧ Aside0 (Kd.R (Kd.int .i64) 3 w' w.heap.size (fun k_ => some k_ ≠ (v248 : Value).ownBlock) (.slice Ao8 t244.length co8) t244) ∧ Aside0 (Kd.R (Kd.int .i64) 3 w' w.heap.size (fun k_ => some k_ ≠ ((.slice Ao8 t244.length co8) : Value).ownBlock) v248 t247) ∧ Aside0 (Below w.heap.size w w'))
          case atStart => exact ⟨(0), (by first | rfl | (simp; done) | (simp [*]; done)), H', ⟨Nat.le_refl _⟩, ⟨by (with_reducible repeat (first | apply Kd.R_alloc | apply Kd.R_drewN | apply Kd.R_drew)); exact HO_4.out⟩, ⟨by (with_reducible repeat (first | apply Kd.R_alloc | apply Kd.R_drewN | apply Kd.R_drew)); exact HO_5.out⟩, ⟨by repeat (first | (with_reducible first | exact HB.out | apply below_alloc | apply pw_below_drewN | apply below_drew1) | exact HB.out)⟩⟩
          case round =>
            clear H'
            try clear c1
            try clear c2
            try clear p2
            try clear c3
            try clear c5
            try clear c11
            try clear c13
            try clear c20
            try clear p2
            obtain ⟨x6_2, rfl, HA, HK2, HO_4, HO_5, HB⟩ := hrel
            cases gk with
            | zero => exact absurd HA.out (by simp [laws_FnCalls.l0])
            | succ k2 =>
              have H := HA.out
              clear HA
              simp only [laws_FnCalls.l0] at H
              by_cases c21 : x6_2 < (t247.length : Int)
              · rw [if_pos c21] at H
                have c21b0 : decide (x6_2 < (t247.length : Int)) = true := decide_eq_true c21
                clear c21
                obtain ⟨y253, hy253⟩ : ∃ y_ : List Int, y_ = (([] : List Int)) := ⟨_, rfl⟩
                replace H : (if y253.length + t244.length < 17592186044416 then ((some (y253 ++ t244 : List Int)).bind fun y256 => (if 0 ≤ x6_2 then ((some (([rd t247 x6_2] : List Int) : List Int)).bind fun y260 => (if y256.length + y260.length < 17592186044416 then ((impl_IsCalls.f k2 t243 (y256 ++ y260)).bind fun t266 => (if t266 = true then (laws_FnCalls.l0 k2 l0 t243 t244 t247 (wrap64 (x6_2 + 1))) else (some false))) else (none))) else (none))) else (none)) = some r := by first | (rw [hy253]; with_reducible exact H) | (have H2_ := (Option.bind_some _ _).symm.trans H; rw [hy253]; with_reducible exact H2_) | (have H2_ := (Option.bind_some _ _).symm.trans H; with_reducible exact H2_) | with_reducible exact H | (rw [hy253]; exact H) | exact H
                have Ny253 := Aside0.mk hy253
                clear hy253
                by_cases c22 : y253.length + t244.length < 17592186044416
                · rw [if_pos c22] at H
                  have LMc22 := Aside0.mk c22
                  clear c22
                  obtain ⟨y256, hy256⟩ : ∃ y_ : List Int, y_ = (y253 ++ t244) := ⟨_, rfl⟩
                  replace H : (if 0 ≤ x6_2 then ((some (([rd t247 x6_2] : List Int) : List Int)).bind fun y260 => (if y256.length + y260.length < 17592186044416 then ((impl_IsCalls.f k2 t243 (y256 ++ y260)).bind fun t266 => (if t266 = true then (laws_FnCalls.l0 k2 l0 t243 t244 t247 (wrap64 (x6_2 + 1))) else (some false))) else (none))) else (none)) = some r := by first | (rw [hy256]; with_reducible exact H) | (have H2_ := (Option.bind_some _ _).symm.trans H; rw [hy256]; with_reducible exact H2_) | (have H2_ := (Option.bind_some _ _).symm.trans H; with_reducible exact H2_) | with_reducible exact H | (rw [hy256]; exact H) | exact H
                  have Ny256 := Aside0.mk hy256
                  clear hy256
                  by_cases c23 : 0 ≤ x6_2
                  · rw [if_pos c23] at H
                    have c23b0 : decide (0 ≤ x6_2) = true := decide_eq_true c23
                    clear c23
                    obtain ⟨y260, hy260⟩ : ∃ y_ : List Int, y_ = (([rd t247 x6_2] : List Int)) := ⟨_, rfl⟩
                    replace H : (if y256.length + y260.length < 17592186044416 then ((impl_IsCalls.f k2 t243 (y256 ++ y260)).bind fun t266 => (if t266 = true then (laws_FnCalls.l0 k2 l0 t243 t244 t247 (wrap64 (x6_2 + 1))) else (some false))) else (none)) = some r := by first | (rw [hy260]; with_reducible exact H) | (have H2_ := (Option.bind_some _ _).symm.trans H; rw [hy260]; with_reducible exact H2_) | (have H2_ := (Option.bind_some _ _).symm.trans H; with_reducible exact H2_) | with_reducible exact H | (rw [hy260]; exact H) | exact H
                    have Ny260 := Aside0.mk hy260
                    clear hy260
                    by_cases c24 : y256.length + y260.length < 17592186044416
                    · rw [if_pos c24] at H
                      have LMc24 := Aside0.mk c24
                      clear c24
                      obtain ⟨y263, hy263⟩ : ∃ y_ : List Int, y_ = (y256 ++ y260) := ⟨_, rfl⟩
                      replace H : ((impl_IsCalls.f k2 t243 y263).bind fun t266 => (if t266 = true then (laws_FnCalls.l0 k2 l0 t243 t244 t247 (wrap64 (x6_2 + 1))) else (some false))) = some r := by first | (rw [hy263]; with_reducible exact H) | (have H2_ := (Option.bind_some _ _).symm.trans H; rw [hy263]; with_reducible exact H2_) | (have H2_ := (Option.bind_some _ _).symm.trans H; with_reducible exact H2_) | with_reducible exact H | (rw [hy263]; exact H) | exact H
                      have Ny263 := Aside0.mk hy263
                      clear hy263
                      replace H := Option.bind_eq_some_iff.mp H
                      obtain ⟨t266, A250, H⟩ := H
                      replace H : (if t266 = true then (laws_FnCalls.l0 k2 l0 t243 t244 t247 (wrap64 (x6_2 + 1))) else (some false)) = some r := H
                      have A25 := Aside0.mk A250
                      clear A250
                      by_cases c26 : t266 = true
                      · subst c26
                        have H1 : (laws_FnCalls.l0 k2 l0 t243 t244 t247 (wrap64 (x6_2 + 1))) = some r := by rw [if_pos rfl] at H; exact H
                        clear H
                        have H := H1
                        clear H1
                        have H' := Aside0.mk H
                        clear H
                        obtain ⟨Ao27, co27, eo27⟩ := Kd.R_slice HO_5.out
                        subst eo27
                        try go_wp2
                        have n0_ := Aside0.mk (Kd.R_drew HO_4.out)
                        have n1_ := Aside0.mk (Kd.R_drew HO_5.out)
                        have n2_ := Aside0.mk (below_drew1 HB.out)
                        clear HO_4
                        clear HO_5
                        clear HB
                        have HO_4 := n0_
                        have HO_5 := n1_
                        have HB := n2_
                        clear n0_ n1_ n2_
                        have p259 : 0 ≤ (x6_2 : Int) := of_decide_eq_true (by first | (with_reducible assumption) | assumption)
                        have q259 : x6_2 < (t247.length : Int) := of_decide_eq_true (by first | (with_reducible assumption) | assumption)
                        obtain ⟨ad259, e259, hx259_0⟩ := Kd.at_int (Kd.R_reads' HO_5.out).2.2 x6_2 p259 q259
                        cases e259
                        replace p259 := eq_true p259
                        replace q259 := eq_true q259
                        refine start_ (n := 12) (S := fun w' => w'.cell? (ad259.add (x6_2).toNat) = some (.int .i64 (rd t247 x6_2))) (ds := []) #[false, false, false, false, false, false, false, false, false, false, false, false] (by kernel_rfl) rfl rfl (hx259_0) (fun hHeld => ?_); refine with_tabW laws_FnCalls.tab10 laws_FnCalls.bits10 (fun HT_ HW_ => ?_)
                        generalize wr.drew = w28 at HO_4 HO_5 HB hx259_0 hHeld ⊢
                        refine pure_ (i := 0) (N := some 44) (v := ?_) (a' := ?_) #[true, false, false, false, false, false, false, false, false, false, false, false] rfl rfl (any_of HT_.out (by kernel_rfl)) (fun _ _ _ h => h) (Or.inl ⟨by rfl, ?_⟩) ?_ ?_
                        rotate_left
                        · intro w'
                          go_simp
                          with_reducible rfl
                        rotate_left
                        · simp only [Act.put, List.setIfInBounds_toArray, List.set_cons_zero, List.set_cons_succ, i64_w, i32_w]
                          rfl
                        refine pure_ (i := 2) (N := some 46) (v := ?_) (a' := ?_) #[true, false, true, false, false, false, false, false, false, false, false, false] rfl rfl (any_of HT_.out (by kernel_rfl)) (fun _ _ _ h => h) (Or.inl ⟨by rfl, ?_⟩) ?_ ?_
                        rotate_left
                        · intro w'
                          go_simp
                          with_reducible rfl
                        rotate_left
                        · simp only [Act.put, List.setIfInBounds_toArray, List.set_cons_zero, List.set_cons_succ, i64_w, i32_w]
                          rfl
                        refine pure_ (i := 4) (N := some 48) (v := ?_) (a' := ?_) #[true, false, true, false, true, false, false, false, false, false, false, false] rfl rfl (any_of HT_.out (by kernel_rfl)) (fun _ _ _ h => h) (Or.inl ⟨by rfl, ?_⟩) ?_ ?_
                        rotate_left
                        · intro w'
                          go_simp
                          with_reducible rfl
                        rotate_left
                        · simp only [Act.put, List.setIfInBounds_toArray, List.set_cons_zero, List.set_cons_succ, i64_w, i32_w]
                          rfl
                        refine pure_ (i := 5) (N := some 49) (v := ?_) (a' := ?_) #[true, false, true, false, true, true, false, false, false, false, false, false] rfl rfl (any_of HT_.out (by kernel_rfl)) (fun _ _ _ h => h) (Or.inl ⟨by rfl, ?_⟩) ?_ ?_
                        rotate_left
                        · intro w'
                          go_simp
                          with_reducible rfl
                        rotate_left
                        · simp only [Act.put, List.setIfInBounds_toArray, List.set_cons_zero, List.set_cons_succ, i64_w, i32_w]
                          rfl
                        refine pure_ (i := 6) (N := some 50) (v := ?_) (a' := ?_) #[true, false, true, false, true, true, true, false, false, false, false, false] rfl rfl (any_of HT_.out (by kernel_rfl)) (fun _ _ _ h => h) (Or.inl ⟨by rfl, ?_⟩) ?_ ?_
                        rotate_left
                        · intro w'
                          go_simp
                          with_reducible rfl
                        rotate_left
                        · simp only [Act.put, List.setIfInBounds_toArray, List.set_cons_zero, List.set_cons_succ, i64_w, i32_w]
                          rfl
                        refine take_ (i := 7) (N := some 51) (v := ?_) (a' := ?_) #[true, false, true, false, true, true, true, true, false, false, false, false] rfl rfl (take_ofW HT_.out HW_.out (by kernel_rfl)) (fun _ _ _ h => h) (Or.inl ⟨by rfl, ?_⟩) hHeld ?_ ?_
                        rotate_left
                        · intro w' s0
                          go_simp
                          with_reducible rfl
                        rotate_left
                        · simp only [Act.put, List.setIfInBounds_toArray, List.set_cons_zero, List.set_cons_succ, i64_w, i32_w]
                          rfl
                        refine join_ (σ := Value × Value × Value) 3 #[true, true, true, true, true, true, true, true, true, false, false, false] (fun s_ => [(45, s_.1), (47, s_.2.1), (52, s_.2.2)]) (fun s_ w' => (w'.cell? (ad259.add (x6_2).toNat) = some (.int .i64 (rd t247 x6_2))) ∧ (Kd.R (Kd.int .i64) 3 w' w.heap.size (fun k_ => some k_ ≠ (s_.2.2 : Value).ownBlock ∧ some k_ ≠ (.slice Ao8 t244.length co8 : Value).ownBlock ∧ some k_ ≠ (.slice (some ad259) t247.length co27 : Value).ownBlock) s_.2.1 y256) ∧ (Kd.R (Kd.int .i64) 3 w' w.heap.size (fun k_ => some k_ ≠ (s_.2.1 : Value).ownBlock ∧ some k_ ≠ (.slice Ao8 t244.length co8 : Value).ownBlock ∧ some k_ ≠ (.slice (some ad259) t247.length co27 : Value).ownBlock) s_.2.2 y260) ∧ (Kd.R (Kd.int .i64) 3 w' w.heap.size (fun k_ => some k_ ≠ (s_.2.1 : Value).ownBlock ∧ some k_ ≠ (s_.2.2 : Value).ownBlock ∧ some k_ ≠ (.slice (some ad259) t247.length co27 : Value).ownBlock) (.slice Ao8 t244.length co8) t244) ∧ (Kd.R (Kd.int .i64) 3 w' w.heap.size (fun k_ => some k_ ≠ (s_.2.1 : Value).ownBlock ∧ some k_ ≠ (s_.2.2 : Value).ownBlock ∧ some k_ ≠ (.slice Ao8 t244.length co8 : Value).ownBlock) (.slice (some ad259) t247.length co27) t247) ∧ (Below w.heap.size w w')) ?_ ?_
                        rotate_left
                        · intro hCont
                          refine two_ (i := 1) (j := 8) (Ni := some 45) (Nj := some 52) #[true, true, true, false, true, true, true, true, false, false, false, false] #[true, false, true, false, true, true, true, true, true, false, false, false] rfl rfl rfl rfl (two_of HT_.out (by kernel_rfl)) (by decide) (by decide) (fun K hK => ?_) (fun K hK => ?_)
                          · skip
                            refine Kd.R_lit_step (Kd.int .i64) _ 3 ?hg (N := 45) ?hd (xs := ([] : List Int)) (inner := []) (ok := fun _ => True) (okp := fun _ => True) ?hr ?hp (fun _ hk => hk) trivial (Below.refl _ _) (Nat.le_refl _) (by simp) ?_; (case hd => rfl); (case hg => rfl); (case hr => first | (go_simp; done) | (go_simp; rfl)); (case hp => exact (Reps.none _ _))
                            intro v254 w29 ho30 hb hg_ hnew_
                            have HS0_ := (hb.cell (World.block_lt_of_cell? _ _ (hHeld))).trans (hHeld)
                            clear hg_ hnew_
                            (first | rw [← Ny253.out] at ho30 | (simp only [Int.reduceToNat] at ho30; rw [← Ny253.out] at ho30))
                            have n0_ := Aside0.mk (Kd.R_elder' (by (with_reducible repeat (first | apply Kd.R_alloc | apply Kd.R_drewN | apply Kd.R_drew)); exact HO_4.out) (Kd.R_base ho30) hb)
                            have n1_ := Aside0.mk (Kd.R_elder' (by (with_reducible repeat (first | apply Kd.R_alloc | apply Kd.R_drewN | apply Kd.R_drew)); exact HO_5.out) (Kd.R_base ho30) hb)
                            have n2_ := Aside0.mk (Kd.R_lower (Kd.R_new' (Kd.R_new' ho30 (Kd.R_lt (by (with_reducible repeat (first | apply Kd.R_alloc | apply Kd.R_drewN | apply Kd.R_drew)); exact HO_4.out))) (Kd.R_lt (by (with_reducible repeat (first | apply Kd.R_alloc | apply Kd.R_drewN | apply Kd.R_drew)); exact HO_5.out))) (below_size (by repeat (first | (with_reducible first | exact HB.out | apply below_alloc | apply pw_below_drewN | apply below_drew1) | exact HB.out))))
                            have n3_ := Aside0.mk (below_step (by repeat (first | (with_reducible first | exact HB.out | apply below_alloc | apply pw_below_drewN | apply below_drew1) | exact HB.out)) hb)
                            clear HO_4
                            clear HO_5
                            clear HB
                            have HO_4 := n0_
                            have HO_5 := n1_
                            have HO255 := n2_
                            have HB := n3_
                            clear n0_ n1_ n2_ n3_
                            clear hb ho30
                            refine hK.out _ _ (HS0_) (fun hHeld => ?_)
                            clear hK K
                            refine norm_ (a' := ?_) ?_ ?_
                            rotate_left
                            · show Act.put _ (some 45) _ = _
                              simp only [Act.put, List.setIfInBounds_toArray, List.set_cons_zero, List.set_cons_succ, i64_w, i32_w]
                              rfl
                            refine two_ (i := 3) (j := 8) (Ni := some 47) (Nj := some 52) #[true, true, true, true, true, true, true, true, false, false, false, false] #[true, true, true, false, true, true, true, true, true, false, false, false] rfl rfl rfl rfl (two_of HT_.out (by kernel_rfl)) (by decide) (by decide) (fun K hK => ?_) (fun K hK => ?_)
                            · skip
                              refine Kd.R_append_rows_step (Kd.int .i64) (w0 := w) w.heap.size (by rfl) (.tmp 45) (.tmp 46) 22 3 (.int .i64 0) 8 rfl Try.underlying22 info3 rfl (by decide) (by omega) v254 y253 t244 _ _ _ (fun k_ => some k_ ≠ (.slice Ao8 t244.length co8 : Value).ownBlock ∧ some k_ ≠ (.slice (some ad259) t247.length co27 : Value).ownBlock) (fun _ => False) rfl rfl ?aO ?aR (fun _ _ h => h) (fun _ h => h.elim) ?aF ?aB ?aS ?aL ?_
                              (case aR => repeat (first | exact (Kd.R_reads' HO_4.out).2.2 | (with_reducible refine Kd.C_alloc ?_ _) | (with_reducible refine Kd.C_drewN ?_ _) | (with_reducible refine Kd.C_drew ?_)))
                              (case aB => exact (by repeat (first | (with_reducible first | exact HB.out | apply below_alloc | apply pw_below_drewN | apply below_drew1) | exact HB.out)))
                              (case aF => exact (fun k_ hk => ⟨Kd.fresh' (Kd.R_lt (by (with_reducible repeat (first | apply Kd.R_alloc | apply Kd.R_drewN | apply Kd.R_drew)); exact HO_4.out)) k_ hk, Kd.fresh' (Kd.R_lt (by (with_reducible repeat (first | apply Kd.R_alloc | apply Kd.R_drewN | apply Kd.R_drew)); exact HO_5.out)) k_ hk⟩))
                              (case aO => exact (by (with_reducible repeat (first | apply Kd.R_alloc | apply Kd.R_drewN | apply Kd.R_drew)); exact Kd.R_mono HO255.out (fun _ hk => ⟨hk.1.2, hk.2⟩)))
                              (case aS => exact (below_size (by repeat (first | (with_reducible first | exact HB.out | apply below_alloc | apply pw_below_drewN | apply below_drew1) | exact HB.out))))
                              (case aL => have := LMc22.out; omega)
                              intro v257 w31 ho hb hg hat
                              (first | have HS0_ := cell_grown hg (hHeld) (by have h_ := HO_5.out.1 _ rfl; first | (rw [add_block]; first | exact h_ | exact h_.1 | exact h_.2 | exact h_.1.1 | exact h_.1.2 | exact h_.2.1 | exact h_.2.2 | exact h_.1.1.1 | exact h_.1.1.2 | exact h_.1.2.1 | exact h_.1.2.2 | exact h_.2.1.1 | exact h_.2.1.2 | exact h_.2.2.1 | exact h_.2.2.2 | exact h_.1.1.1.1 | exact h_.1.1.1.2 | exact h_.1.1.2.1 | exact h_.1.1.2.2 | exact h_.1.2.1.1 | exact h_.1.2.1.2 | exact h_.1.2.2.1 | exact h_.1.2.2.2 | exact h_.2.1.1.1 | exact h_.2.1.1.2 | exact h_.2.1.2.1 | exact h_.2.1.2.2 | exact h_.2.2.1.1 | exact h_.2.2.1.2 | exact h_.2.2.2.1 | exact h_.2.2.2.2) | (show some (Addr.add _ _).block ≠ _; rw [add_block]; first | exact h_ | exact h_.1 | exact h_.2 | exact h_.1.1 | exact h_.1.2 | exact h_.2.1 | exact h_.2.2 | exact h_.1.1.1 | exact h_.1.1.2 | exact h_.1.2.1 | exact h_.1.2.2 | exact h_.2.1.1 | exact h_.2.1.2 | exact h_.2.2.1 | exact h_.2.2.2 | exact h_.1.1.1.1 | exact h_.1.1.1.2 | exact h_.1.1.2.1 | exact h_.1.1.2.2 | exact h_.1.2.1.1 | exact h_.1.2.1.2 | exact h_.1.2.2.1 | exact h_.1.2.2.2 | exact h_.2.1.1.1 | exact h_.2.1.1.2 | exact h_.2.1.2.1 | exact h_.2.1.2.2 | exact h_.2.2.1.1 | exact h_.2.2.1.2 | exact h_.2.2.2.1 | exact h_.2.2.2.2) | (first | exact h_ | exact h_.1 | exact h_.2 | exact h_.1.1 | exact h_.1.2 | exact h_.2.1 | exact h_.2.2 | exact h_.1.1.1 | exact h_.1.1.2 | exact h_.1.2.1 | exact h_.1.2.2 | exact h_.2.1.1 | exact h_.2.1.2 | exact h_.2.2.1 | exact h_.2.2.2 | exact h_.1.1.1.1 | exact h_.1.1.1.2 | exact h_.1.1.2.1 | exact h_.1.1.2.2 | exact h_.1.2.1.1 | exact h_.1.2.1.2 | exact h_.1.2.2.1 | exact h_.1.2.2.2 | exact h_.2.1.1.1 | exact h_.2.1.1.2 | exact h_.2.1.2.1 | exact h_.2.1.2.2 | exact h_.2.2.1.1 | exact h_.2.2.1.2 | exact h_.2.2.2.1 | exact h_.2.2.2.2)) | have HS0_ := cell_grown hg (cell_unalloc (hHeld) (by have h_ := Kd.R_lt HO_5.out _ rfl; first | (rw [add_block]; exact h_) | (show (Addr.add _ _).block < _; rw [add_block]; exact h_) | exact h_)) (by have h_ := HO_5.out.1 _ rfl; first | (rw [add_block]; first | exact h_ | exact h_.1 | exact h_.2 | exact h_.1.1 | exact h_.1.2 | exact h_.2.1 | exact h_.2.2 | exact h_.1.1.1 | exact h_.1.1.2 | exact h_.1.2.1 | exact h_.1.2.2 | exact h_.2.1.1 | exact h_.2.1.2 | exact h_.2.2.1 | exact h_.2.2.2 | exact h_.1.1.1.1 | exact h_.1.1.1.2 | exact h_.1.1.2.1 | exact h_.1.1.2.2 | exact h_.1.2.1.1 | exact h_.1.2.1.2 | exact h_.1.2.2.1 | exact h_.1.2.2.2 | exact h_.2.1.1.1 | exact h_.2.1.1.2 | exact h_.2.1.2.1 | exact h_.2.1.2.2 | exact h_.2.2.1.1 | exact h_.2.2.1.2 | exact h_.2.2.2.1 | exact h_.2.2.2.2) | (show some (Addr.add _ _).block ≠ _; rw [add_block]; first | exact h_ | exact h_.1 | exact h_.2 | exact h_.1.1 | exact h_.1.2 | exact h_.2.1 | exact h_.2.2 | exact h_.1.1.1 | exact h_.1.1.2 | exact h_.1.2.1 | exact h_.1.2.2 | exact h_.2.1.1 | exact h_.2.1.2 | exact h_.2.2.1 | exact h_.2.2.2 | exact h_.1.1.1.1 | exact h_.1.1.1.2 | exact h_.1.1.2.1 | exact h_.1.1.2.2 | exact h_.1.2.1.1 | exact h_.1.2.1.2 | exact h_.1.2.2.1 | exact h_.1.2.2.2 | exact h_.2.1.1.1 | exact h_.2.1.1.2 | exact h_.2.1.2.1 | exact h_.2.1.2.2 | exact h_.2.2.1.1 | exact h_.2.2.1.2 | exact h_.2.2.2.1 | exact h_.2.2.2.2) | (first | exact h_ | exact h_.1 | exact h_.2 | exact h_.1.1 | exact h_.1.2 | exact h_.2.1 | exact h_.2.2 | exact h_.1.1.1 | exact h_.1.1.2 | exact h_.1.2.1 | exact h_.1.2.2 | exact h_.2.1.1 | exact h_.2.1.2 | exact h_.2.2.1 | exact h_.2.2.2 | exact h_.1.1.1.1 | exact h_.1.1.1.2 | exact h_.1.1.2.1 | exact h_.1.1.2.2 | exact h_.1.2.1.1 | exact h_.1.2.1.2 | exact h_.1.2.2.1 | exact h_.1.2.2.2 | exact h_.2.1.1.1 | exact h_.2.1.1.2 | exact h_.2.1.2.1 | exact h_.2.1.2.2 | exact h_.2.2.1.1 | exact h_.2.2.1.2 | exact h_.2.2.2.1 | exact h_.2.2.2.2)))
                              rw [← Ny256.out] at ho
                              have n0_ := Aside0.mk (Kd.R_after (ok := (fun k_ => some k_ ≠ (.slice (some ad259) t247.length co27 : Value).ownBlock)) (by (with_reducible repeat (first | apply Kd.R_alloc | apply Kd.R_drewN | apply Kd.R_drew)); exact HO_4.out) hg hat)
                              have n1_ := Aside0.mk (Kd.R_after (ok := (fun k_ => some k_ ≠ (.slice Ao8 t244.length co8 : Value).ownBlock)) (by (with_reducible repeat (first | apply Kd.R_alloc | apply Kd.R_drewN | apply Kd.R_drew)); exact HO_5.out) hg hat)
                              have n2_ := Aside0.mk (hb)
                              have n3_ := Aside0.mk (ho)
                              clear HO_4
                              clear HO_5
                              clear HB
                              clear HO255
                              have HO_4 := n0_
                              have HO_5 := n1_
                              have HB := n2_
                              have HO258 := n3_
                              clear n0_ n1_ n2_ n3_
                              clear ho hb hg hat
                              refine hK.out _ _ (HS0_) (fun hHeld => ?_)
                              clear hK K
                              refine norm_ (a' := ?_) ?_ ?_
                              rotate_left
                              · show Act.put _ (some 47) _ = _
                                simp only [Act.put, List.setIfInBounds_toArray, List.set_cons_zero, List.set_cons_succ, i64_w, i32_w]
                                rfl
                              refine one_ (i := 8) (N := some 52) #[true, true, true, true, true, true, true, true, true, false, false, false] rfl rfl (one_of HT_.out (by kernel_rfl)) (by decide) (fun K hK => ?_)
                              refine Kd.R_lit_step (Kd.int .i64) _ 3 ?hg (N := 52) ?hd (xs := ([rd t247 x6_2] : List Int)) (inner := [.int .i64 (rd t247 x6_2)]) (ok := fun _ => True) (okp := fun _ => True) ?hr ?hp (fun _ hk => hk) trivial (Below.refl _ _) (Nat.le_refl _) (by simp) ?_; (case hd => rfl); (case hg => rfl); (case hr => first | (go_simp; done) | (go_simp; rfl)); (case hp => exact (Reps.one (show Kd.M (Kd.int .i64) _ _ _ (rd t247 x6_2) [.int .i64 (rd t247 x6_2)] from rfl) (Reps.none _ _)))
                              intro v261 w32 ho33 hb hg_ hnew_
                              have HS0_ := (hb.cell (World.block_lt_of_cell? _ _ (hHeld))).trans (hHeld)
                              clear hg_ hnew_
                              (first | rw [← Ny260.out] at ho33 | (simp only [Int.reduceToNat] at ho33; rw [← Ny260.out] at ho33))
                              have n0_ := Aside0.mk (Kd.R_elder' (by (with_reducible repeat (first | apply Kd.R_alloc | apply Kd.R_drewN | apply Kd.R_drew)); exact HO_4.out) (Kd.R_base ho33) hb)
                              have n1_ := Aside0.mk (Kd.R_elder' (by (with_reducible repeat (first | apply Kd.R_alloc | apply Kd.R_drewN | apply Kd.R_drew)); exact HO_5.out) (Kd.R_base ho33) hb)
                              have n2_ := Aside0.mk (Kd.R_elder' (by (with_reducible repeat (first | apply Kd.R_alloc | apply Kd.R_drewN | apply Kd.R_drew)); exact HO258.out) (Kd.R_base ho33) hb)
                              have n3_ := Aside0.mk (Kd.R_lower (Kd.R_new' (Kd.R_new' (Kd.R_new' ho33 (Kd.R_lt (by (with_reducible repeat (first | apply Kd.R_alloc | apply Kd.R_drewN | apply Kd.R_drew)); exact HO_4.out))) (Kd.R_lt (by (with_reducible repeat (first | apply Kd.R_alloc | apply Kd.R_drewN | apply Kd.R_drew)); exact HO_5.out))) (Kd.R_lt (by (with_reducible repeat (first | apply Kd.R_alloc | apply Kd.R_drewN | apply Kd.R_drew)); exact HO258.out))) (below_size (by repeat (first | (with_reducible first | exact HB.out | apply below_alloc | apply pw_below_drewN | apply below_drew1) | exact HB.out))))
                              have n4_ := Aside0.mk (below_step (by repeat (first | (with_reducible first | exact HB.out | apply below_alloc | apply pw_below_drewN | apply below_drew1) | exact HB.out)) hb)
                              clear HO_4
                              clear HO_5
                              clear HO258
                              clear HB
                              have HO_4 := n0_
                              have HO_5 := n1_
                              have HO258 := n2_
                              have HO262 := n3_
                              have HB := n4_
                              clear n0_ n1_ n2_ n3_ n4_
                              clear hb ho33
                              refine hK.out _ _ (HS0_) (fun hHeld => ?_)
                              clear hK K
                              refine norm_ (a' := ?_) ?_ ?_
                              rotate_left
                              · show Act.put _ (some 52) _ = _
                                simp only [Act.put, List.setIfInBounds_toArray, List.set_cons_zero, List.set_cons_succ, i64_w, i32_w]
                                rfl
                              exact norm_ (by simp only [putAll, Act.put, List.setIfInBounds_toArray, List.set_cons_zero, List.set_cons_succ]) (hCont (v254, v257, v261) _ ⟨hHeld, (by (with_reducible repeat (first | apply Kd.R_alloc | apply Kd.R_drewN | apply Kd.R_drew)); exact Kd.R_mono HO258.out (fun _ hk => ⟨hk.2, ⟨hk.1.1, hk.1.2⟩⟩)), (by (with_reducible repeat (first | apply Kd.R_alloc | apply Kd.R_drewN | apply Kd.R_drew)); exact Kd.R_mono HO262.out (fun _ hk => ⟨hk.2, ⟨hk.1.1.2, hk.1.2⟩⟩)), (by (with_reducible repeat (first | apply Kd.R_alloc | apply Kd.R_drewN | apply Kd.R_drew)); exact Kd.R_mono HO_4.out (fun _ hk => ⟨hk.1.2, ⟨hk.2, hk.1.1⟩⟩)), (by (with_reducible repeat (first | apply Kd.R_alloc | apply Kd.R_drewN | apply Kd.R_drew)); exact Kd.R_mono HO_5.out (fun _ hk => ⟨hk.1.2, ⟨hk.2, hk.1.1⟩⟩)), (by repeat (first | (with_reducible first | exact HB.out | apply below_alloc | apply pw_below_drewN | apply below_drew1) | exact HB.out))⟩)
                            · skip
                              refine Kd.R_lit_step (Kd.int .i64) _ 3 ?hg (N := 52) ?hd (xs := ([rd t247 x6_2] : List Int)) (inner := [.int .i64 (rd t247 x6_2)]) (ok := fun _ => True) (okp := fun _ => True) ?hr ?hp (fun _ hk => hk) trivial (Below.refl _ _) (Nat.le_refl _) (by simp) ?_; (case hd => rfl); (case hg => rfl); (case hr => first | (go_simp; done) | (go_simp; rfl)); (case hp => exact (Reps.one (show Kd.M (Kd.int .i64) _ _ _ (rd t247 x6_2) [.int .i64 (rd t247 x6_2)] from rfl) (Reps.none _ _)))
                              intro v261 w31 ho32 hb hg_ hnew_
                              have HS0_ := (hb.cell (World.block_lt_of_cell? _ _ (hHeld))).trans (hHeld)
                              clear hg_ hnew_
                              (first | rw [← Ny260.out] at ho32 | (simp only [Int.reduceToNat] at ho32; rw [← Ny260.out] at ho32))
                              have n0_ := Aside0.mk (Kd.R_elder' (by (with_reducible repeat (first | apply Kd.R_alloc | apply Kd.R_drewN | apply Kd.R_drew)); exact HO_4.out) (Kd.R_base ho32) hb)
                              have n1_ := Aside0.mk (Kd.R_elder' (by (with_reducible repeat (first | apply Kd.R_alloc | apply Kd.R_drewN | apply Kd.R_drew)); exact HO_5.out) (Kd.R_base ho32) hb)
                              have n2_ := Aside0.mk (Kd.R_elder' (by (with_reducible repeat (first | apply Kd.R_alloc | apply Kd.R_drewN | apply Kd.R_drew)); exact HO255.out) (Kd.R_base ho32) hb)
                              have n3_ := Aside0.mk (Kd.R_lower (Kd.R_new' (Kd.R_new' (Kd.R_new' ho32 (Kd.R_lt (by (with_reducible repeat (first | apply Kd.R_alloc | apply Kd.R_drewN | apply Kd.R_drew)); exact HO_4.out))) (Kd.R_lt (by (with_reducible repeat (first | apply Kd.R_alloc | apply Kd.R_drewN | apply Kd.R_drew)); exact HO_5.out))) (Kd.R_lt (by (with_reducible repeat (first | apply Kd.R_alloc | apply Kd.R_drewN | apply Kd.R_drew)); exact HO255.out))) (below_size (by repeat (first | (with_reducible first | exact HB.out | apply below_alloc | apply pw_below_drewN | apply below_drew1) | exact HB.out))))
                              have n4_ := Aside0.mk (below_step (by repeat (first | (with_reducible first | exact HB.out | apply below_alloc | apply pw_below_drewN | apply below_drew1) | exact HB.out)) hb)
                              clear HO_4
                              clear HO_5
                              clear HO255
                              clear HB
                              have HO_4 := n0_
                              have HO_5 := n1_
                              have HO255 := n2_
                              have HO262 := n3_
                              have HB := n4_
                              clear n0_ n1_ n2_ n3_ n4_
                              clear hb ho32
                              refine hK.out _ _ (HS0_) (fun hHeld => ?_)
                              clear hK K
                              refine norm_ (a' := ?_) ?_ ?_
                              rotate_left
                              · show Act.put _ (some 52) _ = _
                                simp only [Act.put, List.setIfInBounds_toArray, List.set_cons_zero, List.set_cons_succ, i64_w, i32_w]
                                rfl
                              refine one_ (i := 3) (N := some 47) #[true, true, true, true, true, true, true, true, true, false, false, false] rfl rfl (one_of HT_.out (by kernel_rfl)) (by decide) (fun K hK => ?_)
                              refine Kd.R_append_rows_step (Kd.int .i64) (w0 := w) w.heap.size (by rfl) (.tmp 45) (.tmp 46) 22 3 (.int .i64 0) 8 rfl Try.underlying22 info3 rfl (by decide) (by omega) v254 y253 t244 _ _ _ (fun k_ => some k_ ≠ (.slice Ao8 t244.length co8 : Value).ownBlock ∧ some k_ ≠ (.slice (some ad259) t247.length co27 : Value).ownBlock ∧ some k_ ≠ (v261 : Value).ownBlock) (fun _ => False) rfl rfl ?aO ?aR (fun _ _ h => h) (fun _ h => h.elim) ?aF ?aB ?aS ?aL ?_
                              (case aR => repeat (first | exact (Kd.R_reads' HO_4.out).2.2 | (with_reducible refine Kd.C_alloc ?_ _) | (with_reducible refine Kd.C_drewN ?_ _) | (with_reducible refine Kd.C_drew ?_)))
                              (case aB => exact (by repeat (first | (with_reducible first | exact HB.out | apply below_alloc | apply pw_below_drewN | apply below_drew1) | exact HB.out)))
                              (case aF => exact (fun k_ hk => ⟨Kd.fresh' (Kd.R_lt (by (with_reducible repeat (first | apply Kd.R_alloc | apply Kd.R_drewN | apply Kd.R_drew)); exact HO_4.out)) k_ hk, Kd.fresh' (Kd.R_lt (by (with_reducible repeat (first | apply Kd.R_alloc | apply Kd.R_drewN | apply Kd.R_drew)); exact HO_5.out)) k_ hk, Kd.fresh' (Kd.R_lt (by (with_reducible repeat (first | apply Kd.R_alloc | apply Kd.R_drewN | apply Kd.R_drew)); exact HO262.out)) k_ hk⟩))
                              (case aO => exact (by (with_reducible repeat (first | apply Kd.R_alloc | apply Kd.R_drewN | apply Kd.R_drew)); exact Kd.R_mono HO255.out (fun _ hk => ⟨hk.1.1.2, ⟨hk.1.2, hk.2⟩⟩)))
                              (case aS => exact (below_size (by repeat (first | (with_reducible first | exact HB.out | apply below_alloc | apply pw_below_drewN | apply below_drew1) | exact HB.out))))
                              (case aL => have := LMc22.out; omega)
                              intro v257 w33 ho hb hg hat
                              (first | have HS0_ := cell_grown hg (hHeld) (by have h_ := HO_5.out.1 _ rfl; first | (rw [add_block]; first | exact h_ | exact h_.1 | exact h_.2 | exact h_.1.1 | exact h_.1.2 | exact h_.2.1 | exact h_.2.2 | exact h_.1.1.1 | exact h_.1.1.2 | exact h_.1.2.1 | exact h_.1.2.2 | exact h_.2.1.1 | exact h_.2.1.2 | exact h_.2.2.1 | exact h_.2.2.2 | exact h_.1.1.1.1 | exact h_.1.1.1.2 | exact h_.1.1.2.1 | exact h_.1.1.2.2 | exact h_.1.2.1.1 | exact h_.1.2.1.2 | exact h_.1.2.2.1 | exact h_.1.2.2.2 | exact h_.2.1.1.1 | exact h_.2.1.1.2 | exact h_.2.1.2.1 | exact h_.2.1.2.2 | exact h_.2.2.1.1 | exact h_.2.2.1.2 | exact h_.2.2.2.1 | exact h_.2.2.2.2) | (show some (Addr.add _ _).block ≠ _; rw [add_block]; first | exact h_ | exact h_.1 | exact h_.2 | exact h_.1.1 | exact h_.1.2 | exact h_.2.1 | exact h_.2.2 | exact h_.1.1.1 | exact h_.1.1.2 | exact h_.1.2.1 | exact h_.1.2.2 | exact h_.2.1.1 | exact h_.2.1.2 | exact h_.2.2.1 | exact h_.2.2.2 | exact h_.1.1.1.1 | exact h_.1.1.1.2 | exact h_.1.1.2.1 | exact h_.1.1.2.2 | exact h_.1.2.1.1 | exact h_.1.2.1.2 | exact h_.1.2.2.1 | exact h_.1.2.2.2 | exact h_.2.1.1.1 | exact h_.2.1.1.2 | exact h_.2.1.2.1 | exact h_.2.1.2.2 | exact h_.2.2.1.1 | exact h_.2.2.1.2 | exact h_.2.2.2.1 | exact h_.2.2.2.2) | (first | exact h_ | exact h_.1 | exact h_.2 | exact h_.1.1 | exact h_.1.2 | exact h_.2.1 | exact h_.2.2 | exact h_.1.1.1 | exact h_.1.1.2 | exact h_.1.2.1 | exact h_.1.2.2 | exact h_.2.1.1 | exact h_.2.1.2 | exact h_.2.2.1 | exact h_.2.2.2 | exact h_.1.1.1.1 | exact h_.1.1.1.2 | exact h_.1.1.2.1 | exact h_.1.1.2.2 | exact h_.1.2.1.1 | exact h_.1.2.1.2 | exact h_.1.2.2.1 | exact h_.1.2.2.2 | exact h_.2.1.1.1 | exact h_.2.1.1.2 | exact h_.2.1.2.1 | exact h_.2.1.2.2 | exact h_.2.2.1.1 | exact h_.2.2.1.2 | exact h_.2.2.2.1 | exact h_.2.2.2.2)) | have HS0_ := cell_grown hg (cell_unalloc (hHeld) (by have h_ := Kd.R_lt HO_5.out _ rfl; first | (rw [add_block]; exact h_) | (show (Addr.add _ _).block < _; rw [add_block]; exact h_) | exact h_)) (by have h_ := HO_5.out.1 _ rfl; first | (rw [add_block]; first | exact h_ | exact h_.1 | exact h_.2 | exact h_.1.1 | exact h_.1.2 | exact h_.2.1 | exact h_.2.2 | exact h_.1.1.1 | exact h_.1.1.2 | exact h_.1.2.1 | exact h_.1.2.2 | exact h_.2.1.1 | exact h_.2.1.2 | exact h_.2.2.1 | exact h_.2.2.2 | exact h_.1.1.1.1 | exact h_.1.1.1.2 | exact h_.1.1.2.1 | exact h_.1.1.2.2 | exact h_.1.2.1.1 | exact h_.1.2.1.2 | exact h_.1.2.2.1 | exact h_.1.2.2.2 | exact h_.2.1.1.1 | exact h_.2.1.1.2 | exact h_.2.1.2.1 | exact h_.2.1.2.2 | exact h_.2.2.1.1 | exact h_.2.2.1.2 | exact h_.2.2.2.1 | exact h_.2.2.2.2) | (show some (Addr.add _ _).block ≠ _; rw [add_block]; first | exact h_ | exact h_.1 | exact h_.2 | exact h_.1.1 | exact h_.1.2 | exact h_.2.1 | exact h_.2.2 | exact h_.1.1.1 | exact h_.1.1.2 | exact h_.1.2.1 | exact h_.1.2.2 | exact h_.2.1.1 | exact h_.2.1.2 | exact h_.2.2.1 | exact h_.2.2.2 | exact h_.1.1.1.1 | exact h_.1.1.1.2 | exact h_.1.1.2.1 | exact h_.1.1.2.2 | exact h_.1.2.1.1 | exact h_.1.2.1.2 | exact h_.1.2.2.1 | exact h_.1.2.2.2 | exact h_.2.1.1.1 | exact h_.2.1.1.2 | exact h_.2.1.2.1 | exact h_.2.1.2.2 | exact h_.2.2.1.1 | exact h_.2.2.1.2 | exact h_.2.2.2.1 | exact h_.2.2.2.2) | (first | exact h_ | exact h_.1 | exact h_.2 | exact h_.1.1 | exact h_.1.2 | exact h_.2.1 | exact h_.2.2 | exact h_.1.1.1 | exact h_.1.1.2 | exact h_.1.2.1 | exact h_.1.2.2 | exact h_.2.1.1 | exact h_.2.1.2 | exact h_.2.2.1 | exact h_.2.2.2 | exact h_.1.1.1.1 | exact h_.1.1.1.2 | exact h_.1.1.2.1 | exact h_.1.1.2.2 | exact h_.1.2.1.1 | exact h_.1.2.1.2 | exact h_.1.2.2.1 | exact h_.1.2.2.2 | exact h_.2.1.1.1 | exact h_.2.1.1.2 | exact h_.2.1.2.1 | exact h_.2.1.2.2 | exact h_.2.2.1.1 | exact h_.2.2.1.2 | exact h_.2.2.2.1 | exact h_.2.2.2.2)))
                              rw [← Ny256.out] at ho
                              have n0_ := Aside0.mk (Kd.R_after (ok := (fun k_ => some k_ ≠ (.slice (some ad259) t247.length co27 : Value).ownBlock ∧ some k_ ≠ (v261 : Value).ownBlock)) (by (with_reducible repeat (first | apply Kd.R_alloc | apply Kd.R_drewN | apply Kd.R_drew)); exact Kd.R_mono HO_4.out (fun _ hk => ⟨⟨hk.1.1, hk.2⟩, hk.1.2⟩)) hg hat)
                              have n1_ := Aside0.mk (Kd.R_after (ok := (fun k_ => some k_ ≠ (.slice Ao8 t244.length co8 : Value).ownBlock ∧ some k_ ≠ (v261 : Value).ownBlock)) (by (with_reducible repeat (first | apply Kd.R_alloc | apply Kd.R_drewN | apply Kd.R_drew)); exact Kd.R_mono HO_5.out (fun _ hk => ⟨⟨hk.1.1, hk.2⟩, hk.1.2⟩)) hg hat)
                              have n2_ := Aside0.mk (Kd.R_after (ok := (fun k_ => some k_ ≠ (.slice Ao8 t244.length co8 : Value).ownBlock ∧ some k_ ≠ (.slice (some ad259) t247.length co27 : Value).ownBlock)) (by (with_reducible repeat (first | apply Kd.R_alloc | apply Kd.R_drewN | apply Kd.R_drew)); exact Kd.R_mono HO262.out (fun _ hk => ⟨⟨hk.1.1.2, hk.1.2⟩, hk.2⟩)) hg hat)
                              have n3_ := Aside0.mk (hb)
                              have n4_ := Aside0.mk (ho)
                              clear HO_4
                              clear HO_5
                              clear HO262
                              clear HB
                              clear HO255
                              have HO_4 := n0_
                              have HO_5 := n1_
                              have HO262 := n2_
                              have HB := n3_
                              have HO258 := n4_
                              clear n0_ n1_ n2_ n3_ n4_
                              clear ho hb hg hat
                              refine hK.out _ _ (HS0_) (fun hHeld => ?_)
                              clear hK K
                              refine norm_ (a' := ?_) ?_ ?_
                              rotate_left
                              · show Act.put _ (some 47) _ = _
                                simp only [Act.put, List.setIfInBounds_toArray, List.set_cons_zero, List.set_cons_succ, i64_w, i32_w]
                                rfl
                              exact norm_ (by simp only [putAll, Act.put, List.setIfInBounds_toArray, List.set_cons_zero, List.set_cons_succ]) (hCont (v254, v257, v261) _ ⟨hHeld, (by (with_reducible repeat (first | apply Kd.R_alloc | apply Kd.R_drewN | apply Kd.R_drew)); exact Kd.R_mono HO258.out (fun _ hk => ⟨hk.2.2, ⟨hk.1, hk.2.1⟩⟩)), (by (with_reducible repeat (first | apply Kd.R_alloc | apply Kd.R_drewN | apply Kd.R_drew)); exact Kd.R_mono HO262.out (fun _ hk => ⟨hk.2, ⟨hk.1.1, hk.1.2⟩⟩)), (by (with_reducible repeat (first | apply Kd.R_alloc | apply Kd.R_drewN | apply Kd.R_drew)); exact Kd.R_mono HO_4.out (fun _ hk => ⟨hk.2, ⟨hk.1.2, hk.1.1⟩⟩)), (by (with_reducible repeat (first | apply Kd.R_alloc | apply Kd.R_drewN | apply Kd.R_drew)); exact Kd.R_mono HO_5.out (fun _ hk => ⟨hk.2, ⟨hk.1.2, hk.1.1⟩⟩)), (by repeat (first | (with_reducible first | exact HB.out | apply below_alloc | apply pw_below_drewN | apply below_drew1) | exact HB.out))⟩)
                          · skip
                            refine Kd.R_lit_step (Kd.int .i64) _ 3 ?hg (N := 52) ?hd (xs := ([rd t247 x6_2] : List Int)) (inner := [.int .i64 (rd t247 x6_2)]) (ok := fun _ => True) (okp := fun _ => True) ?hr ?hp (fun _ hk => hk) trivial (Below.refl _ _) (Nat.le_refl _) (by simp) ?_; (case hd => rfl); (case hg => rfl); (case hr => first | (go_simp; done) | (go_simp; rfl)); (case hp => exact (Reps.one (show Kd.M (Kd.int .i64) _ _ _ (rd t247 x6_2) [.int .i64 (rd t247 x6_2)] from rfl) (Reps.none _ _)))
                            intro v261 w29 ho30 hb hg_ hnew_
                            have HS0_ := (hb.cell (World.block_lt_of_cell? _ _ (hHeld))).trans (hHeld)
                            clear hg_ hnew_
                            (first | rw [← Ny260.out] at ho30 | (simp only [Int.reduceToNat] at ho30; rw [← Ny260.out] at ho30))
                            have n0_ := Aside0.mk (Kd.R_elder' (by (with_reducible repeat (first | apply Kd.R_alloc | apply Kd.R_drewN | apply Kd.R_drew)); exact HO_4.out) (Kd.R_base ho30) hb)
                            have n1_ := Aside0.mk (Kd.R_elder' (by (with_reducible repeat (first | apply Kd.R_alloc | apply Kd.R_drewN | apply Kd.R_drew)); exact HO_5.out) (Kd.R_base ho30) hb)
                            have n2_ := Aside0.mk (Kd.R_lower (Kd.R_new' (Kd.R_new' ho30 (Kd.R_lt (by (with_reducible repeat (first | apply Kd.R_alloc | apply Kd.R_drewN | apply Kd.R_drew)); exact HO_4.out))) (Kd.R_lt (by (with_reducible repeat (first | apply Kd.R_alloc | apply Kd.R_drewN | apply Kd.R_drew)); exact HO_5.out))) (below_size (by repeat (first | (with_reducible first | exact HB.out | apply below_alloc | apply pw_below_drewN | apply below_drew1) | exact HB.out))))
                            have n3_ := Aside0.mk (below_step (by repeat (first | (with_reducible first | exact HB.out | apply below_alloc | apply pw_below_drewN | apply below_drew1) | exact HB.out)) hb)
                            clear HO_4
                            clear HO_5
                            clear HB
                            have HO_4 := n0_
                            have HO_5 := n1_
                            have HO262 := n2_
                            have HB := n3_
                            clear n0_ n1_ n2_ n3_
                            clear hb ho30
                            refine hK.out _ _ (HS0_) (fun hHeld => ?_)
                            clear hK K
                            refine norm_ (a' := ?_) ?_ ?_
                            rotate_left
                            · show Act.put _ (some 52) _ = _
                              simp only [Act.put, List.setIfInBounds_toArray, List.set_cons_zero, List.set_cons_succ, i64_w, i32_w]
                              rfl
                            refine one_ (i := 1) (N := some 45) #[true, true, true, false, true, true, true, true, true, false, false, false] rfl rfl (one_of HT_.out (by kernel_rfl)) (by decide) (fun K hK => ?_)
                            refine Kd.R_lit_step (Kd.int .i64) _ 3 ?hg (N := 45) ?hd (xs := ([] : List Int)) (inner := []) (ok := fun _ => True) (okp := fun _ => True) ?hr ?hp (fun _ hk => hk) trivial (Below.refl _ _) (Nat.le_refl _) (by simp) ?_; (case hd => rfl); (case hg => rfl); (case hr => first | (go_simp; done) | (go_simp; rfl)); (case hp => exact (Reps.none _ _))
                            intro v254 w31 ho32 hb hg_ hnew_
                            have HS0_ := (hb.cell (World.block_lt_of_cell? _ _ (hHeld))).trans (hHeld)
                            clear hg_ hnew_
                            (first | rw [← Ny253.out] at ho32 | (simp only [Int.reduceToNat] at ho32; rw [← Ny253.out] at ho32))
                            have n0_ := Aside0.mk (Kd.R_elder' (by (with_reducible repeat (first | apply Kd.R_alloc | apply Kd.R_drewN | apply Kd.R_drew)); exact HO_4.out) (Kd.R_base ho32) hb)
                            have n1_ := Aside0.mk (Kd.R_elder' (by (with_reducible repeat (first | apply Kd.R_alloc | apply Kd.R_drewN | apply Kd.R_drew)); exact HO_5.out) (Kd.R_base ho32) hb)
                            have n2_ := Aside0.mk (Kd.R_elder' (by (with_reducible repeat (first | apply Kd.R_alloc | apply Kd.R_drewN | apply Kd.R_drew)); exact HO262.out) (Kd.R_base ho32) hb)
                            have n3_ := Aside0.mk (Kd.R_lower (Kd.R_new' (Kd.R_new' (Kd.R_new' ho32 (Kd.R_lt (by (with_reducible repeat (first | apply Kd.R_alloc | apply Kd.R_drewN | apply Kd.R_drew)); exact HO_4.out))) (Kd.R_lt (by (with_reducible repeat (first | apply Kd.R_alloc | apply Kd.R_drewN | apply Kd.R_drew)); exact HO_5.out))) (Kd.R_lt (by (with_reducible repeat (first | apply Kd.R_alloc | apply Kd.R_drewN | apply Kd.R_drew)); exact HO262.out))) (below_size (by repeat (first | (with_reducible first | exact HB.out | apply below_alloc | apply pw_below_drewN | apply below_drew1) | exact HB.out))))
                            have n4_ := Aside0.mk (below_step (by repeat (first | (with_reducible first | exact HB.out | apply below_alloc | apply pw_below_drewN | apply below_drew1) | exact HB.out)) hb)
                            clear HO_4
                            clear HO_5
                            clear HO262
                            clear HB
                            have HO_4 := n0_
                            have HO_5 := n1_
                            have HO262 := n2_
                            have HO255 := n3_
                            have HB := n4_
                            clear n0_ n1_ n2_ n3_ n4_
                            clear hb ho32
                            refine hK.out _ _ (HS0_) (fun hHeld => ?_)
                            clear hK K
                            refine norm_ (a' := ?_) ?_ ?_
                            rotate_left
                            · show Act.put _ (some 45) _ = _
                              simp only [Act.put, List.setIfInBounds_toArray, List.set_cons_zero, List.set_cons_succ, i64_w, i32_w]
                              rfl
                            refine one_ (i := 3) (N := some 47) #[true, true, true, true, true, true, true, true, true, false, false, false] rfl rfl (one_of HT_.out (by kernel_rfl)) (by decide) (fun K hK => ?_)
                            refine Kd.R_append_rows_step (Kd.int .i64) (w0 := w) w.heap.size (by rfl) (.tmp 45) (.tmp 46) 22 3 (.int .i64 0) 8 rfl Try.underlying22 info3 rfl (by decide) (by omega) v254 y253 t244 _ _ _ (fun k_ => some k_ ≠ (.slice Ao8 t244.length co8 : Value).ownBlock ∧ some k_ ≠ (.slice (some ad259) t247.length co27 : Value).ownBlock ∧ some k_ ≠ (v261 : Value).ownBlock) (fun _ => False) rfl rfl ?aO ?aR (fun _ _ h => h) (fun _ h => h.elim) ?aF ?aB ?aS ?aL ?_
                            (case aR => repeat (first | exact (Kd.R_reads' HO_4.out).2.2 | (with_reducible refine Kd.C_alloc ?_ _) | (with_reducible refine Kd.C_drewN ?_ _) | (with_reducible refine Kd.C_drew ?_)))
                            (case aB => exact (by repeat (first | (with_reducible first | exact HB.out | apply below_alloc | apply pw_below_drewN | apply below_drew1) | exact HB.out)))
                            (case aF => exact (fun k_ hk => ⟨Kd.fresh' (Kd.R_lt (by (with_reducible repeat (first | apply Kd.R_alloc | apply Kd.R_drewN | apply Kd.R_drew)); exact HO_4.out)) k_ hk, Kd.fresh' (Kd.R_lt (by (with_reducible repeat (first | apply Kd.R_alloc | apply Kd.R_drewN | apply Kd.R_drew)); exact HO_5.out)) k_ hk, Kd.fresh' (Kd.R_lt (by (with_reducible repeat (first | apply Kd.R_alloc | apply Kd.R_drewN | apply Kd.R_drew)); exact HO262.out)) k_ hk⟩))
                            (case aO => exact (by (with_reducible repeat (first | apply Kd.R_alloc | apply Kd.R_drewN | apply Kd.R_drew)); exact Kd.R_mono HO255.out (fun _ hk => ⟨hk.1.1.2, ⟨hk.1.2, hk.2⟩⟩)))
                            (case aS => exact (below_size (by repeat (first | (with_reducible first | exact HB.out | apply below_alloc | apply pw_below_drewN | apply below_drew1) | exact HB.out))))
                            (case aL => have := LMc22.out; omega)
                            intro v257 w33 ho hb hg hat
                            (first | have HS0_ := cell_grown hg (hHeld) (by have h_ := HO_5.out.1 _ rfl; first | (rw [add_block]; first | exact h_ | exact h_.1 | exact h_.2 | exact h_.1.1 | exact h_.1.2 | exact h_.2.1 | exact h_.2.2 | exact h_.1.1.1 | exact h_.1.1.2 | exact h_.1.2.1 | exact h_.1.2.2 | exact h_.2.1.1 | exact h_.2.1.2 | exact h_.2.2.1 | exact h_.2.2.2 | exact h_.1.1.1.1 | exact h_.1.1.1.2 | exact h_.1.1.2.1 | exact h_.1.1.2.2 | exact h_.1.2.1.1 | exact h_.1.2.1.2 | exact h_.1.2.2.1 | exact h_.1.2.2.2 | exact h_.2.1.1.1 | exact h_.2.1.1.2 | exact h_.2.1.2.1 | exact h_.2.1.2.2 | exact h_.2.2.1.1 | exact h_.2.2.1.2 | exact h_.2.2.2.1 | exact h_.2.2.2.2) | (show some (Addr.add _ _).block ≠ _; rw [add_block]; first | exact h_ | exact h_.1 | exact h_.2 | exact h_.1.1 | exact h_.1.2 | exact h_.2.1 | exact h_.2.2 | exact h_.1.1.1 | exact h_.1.1.2 | exact h_.1.2.1 | exact h_.1.2.2 | exact h_.2.1.1 | exact h_.2.1.2 | exact h_.2.2.1 | exact h_.2.2.2 | exact h_.1.1.1.1 | exact h_.1.1.1.2 | exact h_.1.1.2.1 | exact h_.1.1.2.2 | exact h_.1.2.1.1 | exact h_.1.2.1.2 | exact h_.1.2.2.1 | exact h_.1.2.2.2 | exact h_.2.1.1.1 | exact h_.2.1.1.2 | exact h_.2.1.2.1 | exact h_.2.1.2.2 | exact h_.2.2.1.1 | exact h_.2.2.1.2 | exact h_.2.2.2.1 | exact h_.2.2.2.2) | (first | exact h_ | exact h_.1 | exact h_.2 | exact h_.1.1 | exact h_.1.2 | exact h_.2.1 | exact h_.2.2 | exact h_.1.1.1 | exact h_.1.1.2 | exact h_.1.2.1 | exact h_.1.2.2 | exact h_.2.1.1 | exact h_.2.1.2 | exact h_.2.2.1 | exact h_.2.2.2 | exact h_.1.1.1.1 | exact h_.1.1.1.2 | exact h_.1.1.2.1 | exact h_.1.1.2.2 | exact h_.1.2.1.1 | exact h_.1.2.1.2 | exact h_.1.2.2.1 | exact h_.1.2.2.2 | exact h_.2.1.1.1 | exact h_.2.1.1.2 | exact h_.2.1.2.1 | exact h_.2.1.2.2 | exact h_.2.2.1.1 | exact h_.2.2.1.2 | exact h_.2.2.2.1 | exact h_.2.2.2.2)) | have HS0_ := cell_grown hg (cell_unalloc (hHeld) (by have h_ := Kd.R_lt HO_5.out _ rfl; first | (rw [add_block]; exact h_) | (show (Addr.add _ _).block < _; rw [add_block]; exact h_) | exact h_)) (by have h_ := HO_5.out.1 _ rfl; first | (rw [add_block]; first | exact h_ | exact h_.1 | exact h_.2 | exact h_.1.1 | exact h_.1.2 | exact h_.2.1 | exact h_.2.2 | exact h_.1.1.1 | exact h_.1.1.2 | exact h_.1.2.1 | exact h_.1.2.2 | exact h_.2.1.1 | exact h_.2.1.2 | exact h_.2.2.1 | exact h_.2.2.2 | exact h_.1.1.1.1 | exact h_.1.1.1.2 | exact h_.1.1.2.1 | exact h_.1.1.2.2 | exact h_.1.2.1.1 | exact h_.1.2.1.2 | exact h_.1.2.2.1 | exact h_.1.2.2.2 | exact h_.2.1.1.1 | exact h_.2.1.1.2 | exact h_.2.1.2.1 | exact h_.2.1.2.2 | exact h_.2.2.1.1 | exact h_.2.2.1.2 | exact h_.2.2.2.1 | exact h_.2.2.2.2) | (show some (Addr.add _ _).block ≠ _; rw [add_block]; first | exact h_ | exact h_.1 | exact h_.2 | exact h_.1.1 | exact h_.1.2 | exact h_.2.1 | exact h_.2.2 | exact h_.1.1.1 | exact h_.1.1.2 | exact h_.1.2.1 | exact h_.1.2.2 | exact h_.2.1.1 | exact h_.2.1.2 | exact h_.2.2.1 | exact h_.2.2.2 | exact h_.1.1.1.1 | exact h_.1.1.1.2 | exact h_.1.1.2.1 | exact h_.1.1.2.2 | exact h_.1.2.1.1 | exact h_.1.2.1.2 | exact h_.1.2.2.1 | exact h_.1.2.2.2 | exact h_.2.1.1.1 | exact h_.2.1.1.2 | exact h_.2.1.2.1 | exact h_.2.1.2.2 | exact h_.2.2.1.1 | exact h_.2.2.1.2 | exact h_.2.2.2.1 | exact h_.2.2.2.2) | (first | exact h_ | exact h_.1 | exact h_.2 | exact h_.1.1 | exact h_.1.2 | exact h_.2.1 | exact h_.2.2 | exact h_.1.1.1 | exact h_.1.1.2 | exact h_.1.2.1 | exact h_.1.2.2 | exact h_.2.1.1 | exact h_.2.1.2 | exact h_.2.2.1 | exact h_.2.2.2 | exact h_.1.1.1.1 | exact h_.1.1.1.2 | exact h_.1.1.2.1 | exact h_.1.1.2.2 | exact h_.1.2.1.1 | exact h_.1.2.1.2 | exact h_.1.2.2.1 | exact h_.1.2.2.2 | exact h_.2.1.1.1 | exact h_.2.1.1.2 | exact h_.2.1.2.1 | exact h_.2.1.2.2 | exact h_.2.2.1.1 | exact h_.2.2.1.2 | exact h_.2.2.2.1 | exact h_.2.2.2.2)))
                            rw [← Ny256.out] at ho
                            have n0_ := Aside0.mk (Kd.R_after (ok := (fun k_ => some k_ ≠ (.slice (some ad259) t247.length co27 : Value).ownBlock ∧ some k_ ≠ (v261 : Value).ownBlock)) (by (with_reducible repeat (first | apply Kd.R_alloc | apply Kd.R_drewN | apply Kd.R_drew)); exact HO_4.out) hg hat)
                            have n1_ := Aside0.mk (Kd.R_after (ok := (fun k_ => some k_ ≠ (.slice Ao8 t244.length co8 : Value).ownBlock ∧ some k_ ≠ (v261 : Value).ownBlock)) (by (with_reducible repeat (first | apply Kd.R_alloc | apply Kd.R_drewN | apply Kd.R_drew)); exact HO_5.out) hg hat)
                            have n2_ := Aside0.mk (Kd.R_after (ok := (fun k_ => some k_ ≠ (.slice Ao8 t244.length co8 : Value).ownBlock ∧ some k_ ≠ (.slice (some ad259) t247.length co27 : Value).ownBlock)) (by (with_reducible repeat (first | apply Kd.R_alloc | apply Kd.R_drewN | apply Kd.R_drew)); exact Kd.R_mono HO262.out (fun _ hk => ⟨⟨hk.1.1.2, hk.1.2⟩, hk.2⟩)) hg hat)
                            have n3_ := Aside0.mk (hb)
                            have n4_ := Aside0.mk (ho)
                            clear HO_4
                            clear HO_5
                            clear HO262
                            clear HB
                            clear HO255
                            have HO_4 := n0_
                            have HO_5 := n1_
                            have HO262 := n2_
                            have HB := n3_
                            have HO258 := n4_
                            clear n0_ n1_ n2_ n3_ n4_
                            clear ho hb hg hat
                            refine hK.out _ _ (HS0_) (fun hHeld => ?_)
                            clear hK K
                            refine norm_ (a' := ?_) ?_ ?_
                            rotate_left
                            · show Act.put _ (some 47) _ = _
                              simp only [Act.put, List.setIfInBounds_toArray, List.set_cons_zero, List.set_cons_succ, i64_w, i32_w]
                              rfl
                            exact norm_ (by simp only [putAll, Act.put, List.setIfInBounds_toArray, List.set_cons_zero, List.set_cons_succ]) (hCont (v254, v257, v261) _ ⟨hHeld, (by (with_reducible repeat (first | apply Kd.R_alloc | apply Kd.R_drewN | apply Kd.R_drew)); exact Kd.R_mono HO258.out (fun _ hk => ⟨hk.2.2, ⟨hk.1, hk.2.1⟩⟩)), (by (with_reducible repeat (first | apply Kd.R_alloc | apply Kd.R_drewN | apply Kd.R_drew)); exact Kd.R_mono HO262.out (fun _ hk => ⟨hk.2, ⟨hk.1.1, hk.1.2⟩⟩)), (by (with_reducible repeat (first | apply Kd.R_alloc | apply Kd.R_drewN | apply Kd.R_drew)); exact Kd.R_mono HO_4.out (fun _ hk => ⟨hk.2, ⟨hk.1.2, hk.1.1⟩⟩)), (by (with_reducible repeat (first | apply Kd.R_alloc | apply Kd.R_drewN | apply Kd.R_drew)); exact Kd.R_mono HO_5.out (fun _ hk => ⟨hk.2, ⟨hk.1.2, hk.1.1⟩⟩)), (by repeat (first | (with_reducible first | exact HB.out | apply below_alloc | apply pw_below_drewN | apply below_drew1) | exact HB.out))⟩)
                        rintro ⟨v254, v257, v261⟩ w34 ⟨hS_, h0_, h1_, h2_, h3_, h4_⟩
                        have n0_ : Aside0 (Kd.R (Kd.int .i64) 3 w34 w.heap.size (fun k_ => some k_ ≠ (v261 : Value).ownBlock ∧ some k_ ≠ (.slice Ao8 t244.length co8 : Value).ownBlock ∧ some k_ ≠ (.slice (some ad259) t247.length co27 : Value).ownBlock) v257 y256) := ⟨h0_⟩
                        have n1_ : Aside0 (Kd.R (Kd.int .i64) 3 w34 w.heap.size (fun k_ => some k_ ≠ (v257 : Value).ownBlock ∧ some k_ ≠ (.slice Ao8 t244.length co8 : Value).ownBlock ∧ some k_ ≠ (.slice (some ad259) t247.length co27 : Value).ownBlock) v261 y260) := ⟨h1_⟩
                        have n2_ : Aside0 (Kd.R (Kd.int .i64) 3 w34 w.heap.size (fun k_ => some k_ ≠ (v257 : Value).ownBlock ∧ some k_ ≠ (v261 : Value).ownBlock ∧ some k_ ≠ (.slice (some ad259) t247.length co27 : Value).ownBlock) (.slice Ao8 t244.length co8) t244) := ⟨h2_⟩
                        have n3_ : Aside0 (Kd.R (Kd.int .i64) 3 w34 w.heap.size (fun k_ => some k_ ≠ (v257 : Value).ownBlock ∧ some k_ ≠ (v261 : Value).ownBlock ∧ some k_ ≠ (.slice Ao8 t244.length co8 : Value).ownBlock) (.slice (some ad259) t247.length co27) t247) := ⟨h3_⟩
                        have n4_ : Aside0 (Below w.heap.size w w34) := ⟨h4_⟩
                        clear HO_4
                        clear HO_5
                        clear HB
                        clear h0_ h1_ h2_ h3_ h4_
                        have HO258 := n0_
                        have HO262 := n1_
                        have HO_4 := n2_
                        have HO_5 := n3_
                        have HB := n4_
                        clear n0_ n1_ n2_ n3_ n4_
                        have hHeld : w34.cell? (ad259.add (x6_2).toNat) = some (.int .i64 (rd t247 x6_2)) := hS_
                        obtain ⟨Ao36, co36, eo36⟩ := Kd.R_slice HO262.out
                        (first | subst eo36 | (injection eo36 with f1_ f2_ f3_; have f4_ := f1_.symm; have f5_ := f3_.symm; clear f1_ f2_ f3_; subst f4_; subst f5_))
                        refine norm_ (a' := ?_) ?_ ?_
                        rotate_left
                        · simp only [putAll, Act.put, List.setIfInBounds_toArray, List.set_cons_zero, List.set_cons_succ]
                          rfl
                        refine one_ (i := 9) (N := some 53) #[true, true, true, true, true, true, true, true, true, true, false, false] rfl rfl (one_of HT_.out (by kernel_rfl)) (by decide) (fun K hK => ?_)
                        refine Kd.R_append_rows_step (Kd.int .i64) (w0 := w) w.heap.size (by rfl) (.tmp 47) (.tmp 52) 22 3 (.int .i64 0) 8 rfl Try.underlying22 info3 rfl (by decide) (by omega) v257 y256 y260 _ _ _ (fun k_ => some k_ ≠ (.slice Ao8 t244.length co8 : Value).ownBlock ∧ some k_ ≠ (.slice (some ad259) t247.length co27 : Value).ownBlock ∧ some k_ ≠ (.slice Ao36 y260.length co36 : Value).ownBlock) (fun _ => False) rfl rfl ?aO ?aR (fun _ _ h => h) (fun _ h => h.elim) ?aF ?aB ?aS ?aL ?_
                        (case aR => repeat (first | exact (Kd.R_reads' HO262.out).2.2 | (with_reducible refine Kd.C_alloc ?_ _) | (with_reducible refine Kd.C_drewN ?_ _) | (with_reducible refine Kd.C_drew ?_)))
                        (case aB => exact (by repeat (first | (with_reducible first | exact HB.out | apply below_alloc | apply pw_below_drewN | apply below_drew1) | exact HB.out)))
                        (case aF => exact (fun k_ hk => ⟨Kd.fresh' (Kd.R_lt (by (with_reducible repeat (first | apply Kd.R_alloc | apply Kd.R_drewN | apply Kd.R_drew)); exact HO_4.out)) k_ hk, Kd.fresh' (Kd.R_lt (by (with_reducible repeat (first | apply Kd.R_alloc | apply Kd.R_drewN | apply Kd.R_drew)); exact HO_5.out)) k_ hk, Kd.fresh' (Kd.R_lt (by (with_reducible repeat (first | apply Kd.R_alloc | apply Kd.R_drewN | apply Kd.R_drew)); exact HO262.out)) k_ hk⟩))
                        (case aO => exact (by (with_reducible repeat (first | apply Kd.R_alloc | apply Kd.R_drewN | apply Kd.R_drew)); exact Kd.R_mono HO258.out (fun _ hk => ⟨hk.2.1, ⟨hk.2.2, hk.1⟩⟩)))
                        (case aS => exact (below_size (by repeat (first | (with_reducible first | exact HB.out | apply below_alloc | apply pw_below_drewN | apply below_drew1) | exact HB.out))))
                        (case aL => have := LMc24.out; omega)
                        intro v264 w35 ho hb hg hat
                        (first | have HS0_ := cell_grown hg (hHeld) (by have h_ := HO_5.out.1 _ rfl; first | (rw [add_block]; first | exact h_ | exact h_.1 | exact h_.2 | exact h_.1.1 | exact h_.1.2 | exact h_.2.1 | exact h_.2.2 | exact h_.1.1.1 | exact h_.1.1.2 | exact h_.1.2.1 | exact h_.1.2.2 | exact h_.2.1.1 | exact h_.2.1.2 | exact h_.2.2.1 | exact h_.2.2.2 | exact h_.1.1.1.1 | exact h_.1.1.1.2 | exact h_.1.1.2.1 | exact h_.1.1.2.2 | exact h_.1.2.1.1 | exact h_.1.2.1.2 | exact h_.1.2.2.1 | exact h_.1.2.2.2 | exact h_.2.1.1.1 | exact h_.2.1.1.2 | exact h_.2.1.2.1 | exact h_.2.1.2.2 | exact h_.2.2.1.1 | exact h_.2.2.1.2 | exact h_.2.2.2.1 | exact h_.2.2.2.2) | (show some (Addr.add _ _).block ≠ _; rw [add_block]; first | exact h_ | exact h_.1 | exact h_.2 | exact h_.1.1 | exact h_.1.2 | exact h_.2.1 | exact h_.2.2 | exact h_.1.1.1 | exact h_.1.1.2 | exact h_.1.2.1 | exact h_.1.2.2 | exact h_.2.1.1 | exact h_.2.1.2 | exact h_.2.2.1 | exact h_.2.2.2 | exact h_.1.1.1.1 | exact h_.1.1.1.2 | exact h_.1.1.2.1 | exact h_.1.1.2.2 | exact h_.1.2.1.1 | exact h_.1.2.1.2 | exact h_.1.2.2.1 | exact h_.1.2.2.2 | exact h_.2.1.1.1 | exact h_.2.1.1.2 | exact h_.2.1.2.1 | exact h_.2.1.2.2 | exact h_.2.2.1.1 | exact h_.2.2.1.2 | exact h_.2.2.2.1 | exact h_.2.2.2.2) | (first | exact h_ | exact h_.1 | exact h_.2 | exact h_.1.1 | exact h_.1.2 | exact h_.2.1 | exact h_.2.2 | exact h_.1.1.1 | exact h_.1.1.2 | exact h_.1.2.1 | exact h_.1.2.2 | exact h_.2.1.1 | exact h_.2.1.2 | exact h_.2.2.1 | exact h_.2.2.2 | exact h_.1.1.1.1 | exact h_.1.1.1.2 | exact h_.1.1.2.1 | exact h_.1.1.2.2 | exact h_.1.2.1.1 | exact h_.1.2.1.2 | exact h_.1.2.2.1 | exact h_.1.2.2.2 | exact h_.2.1.1.1 | exact h_.2.1.1.2 | exact h_.2.1.2.1 | exact h_.2.1.2.2 | exact h_.2.2.1.1 | exact h_.2.2.1.2 | exact h_.2.2.2.1 | exact h_.2.2.2.2)) | have HS0_ := cell_grown hg (cell_unalloc (hHeld) (by have h_ := Kd.R_lt HO_5.out _ rfl; first | (rw [add_block]; exact h_) | (show (Addr.add _ _).block < _; rw [add_block]; exact h_) | exact h_)) (by have h_ := HO_5.out.1 _ rfl; first | (rw [add_block]; first | exact h_ | exact h_.1 | exact h_.2 | exact h_.1.1 | exact h_.1.2 | exact h_.2.1 | exact h_.2.2 | exact h_.1.1.1 | exact h_.1.1.2 | exact h_.1.2.1 | exact h_.1.2.2 | exact h_.2.1.1 | exact h_.2.1.2 | exact h_.2.2.1 | exact h_.2.2.2 | exact h_.1.1.1.1 | exact h_.1.1.1.2 | exact h_.1.1.2.1 | exact h_.1.1.2.2 | exact h_.1.2.1.1 | exact h_.1.2.1.2 | exact h_.1.2.2.1 | exact h_.1.2.2.2 | exact h_.2.1.1.1 | exact h_.2.1.1.2 | exact h_.2.1.2.1 | exact h_.2.1.2.2 | exact h_.2.2.1.1 | exact h_.2.2.1.2 | exact h_.2.2.2.1 | exact h_.2.2.2.2) | (show some (Addr.add _ _).block ≠ _; rw [add_block]; first | exact h_ | exact h_.1 | exact h_.2 | exact h_.1.1 | exact h_.1.2 | exact h_.2.1 | exact h_.2.2 | exact h_.1.1.1 | exact h_.1.1.2 | exact h_.1.2.1 | exact h_.1.2.2 | exact h_.2.1.1 | exact h_.2.1.2 | exact h_.2.2.1 | exact h_.2.2.2 | exact h_.1.1.1.1 | exact h_.1.1.1.2 | exact h_.1.1.2.1 | exact h_.1.1.2.2 | exact h_.1.2.1.1 | exact h_.1.2.1.2 | exact h_.1.2.2.1 | exact h_.1.2.2.2 | exact h_.2.1.1.1 | exact h_.2.1.1.2 | exact h_.2.1.2.1 | exact h_.2.1.2.2 | exact h_.2.2.1.1 | exact h_.2.2.1.2 | exact h_.2.2.2.1 | exact h_.2.2.2.2) | (first | exact h_ | exact h_.1 | exact h_.2 | exact h_.1.1 | exact h_.1.2 | exact h_.2.1 | exact h_.2.2 | exact h_.1.1.1 | exact h_.1.1.2 | exact h_.1.2.1 | exact h_.1.2.2 | exact h_.2.1.1 | exact h_.2.1.2 | exact h_.2.2.1 | exact h_.2.2.2 | exact h_.1.1.1.1 | exact h_.1.1.1.2 | exact h_.1.1.2.1 | exact h_.1.1.2.2 | exact h_.1.2.1.1 | exact h_.1.2.1.2 | exact h_.1.2.2.1 | exact h_.1.2.2.2 | exact h_.2.1.1.1 | exact h_.2.1.1.2 | exact h_.2.1.2.1 | exact h_.2.1.2.2 | exact h_.2.2.1.1 | exact h_.2.2.1.2 | exact h_.2.2.2.1 | exact h_.2.2.2.2)))
                        rw [← Ny263.out] at ho
                        have n0_ := Aside0.mk (Kd.R_after (ok := (fun k_ => some k_ ≠ (.slice (some ad259) t247.length co27 : Value).ownBlock ∧ some k_ ≠ (.slice Ao36 y260.length co36 : Value).ownBlock)) (by (with_reducible repeat (first | apply Kd.R_alloc | apply Kd.R_drewN | apply Kd.R_drew)); exact Kd.R_mono HO_4.out (fun _ hk => ⟨⟨hk.2.2, hk.2.1⟩, hk.1⟩)) hg hat)
                        have n1_ := Aside0.mk (Kd.R_after (ok := (fun k_ => some k_ ≠ (.slice Ao8 t244.length co8 : Value).ownBlock ∧ some k_ ≠ (.slice Ao36 y260.length co36 : Value).ownBlock)) (by (with_reducible repeat (first | apply Kd.R_alloc | apply Kd.R_drewN | apply Kd.R_drew)); exact Kd.R_mono HO_5.out (fun _ hk => ⟨⟨hk.2.2, hk.2.1⟩, hk.1⟩)) hg hat)
                        have n2_ := Aside0.mk (Kd.R_after (ok := (fun k_ => some k_ ≠ (.slice Ao8 t244.length co8 : Value).ownBlock ∧ some k_ ≠ (.slice (some ad259) t247.length co27 : Value).ownBlock)) (by (with_reducible repeat (first | apply Kd.R_alloc | apply Kd.R_drewN | apply Kd.R_drew)); exact Kd.R_mono HO262.out (fun _ hk => ⟨⟨hk.2.1, hk.2.2⟩, hk.1⟩)) hg hat)
                        have n3_ := Aside0.mk (hb)
                        have n4_ := Aside0.mk (ho)
                        clear HO_4
                        clear HO_5
                        clear HO262
                        clear HB
                        clear HO258
                        have HO_4 := n0_
                        have HO_5 := n1_
                        have HO262 := n2_
                        have HB := n3_
                        have HO265 := n4_
                        clear n0_ n1_ n2_ n3_ n4_
                        clear ho hb hg hat
                        obtain ⟨Ao37, co37, eo37⟩ := Kd.R_slice HO265.out
                        (first | subst eo37 | (injection eo37 with f1_ f2_ f3_; have f4_ := f1_.symm; have f5_ := f3_.symm; clear f1_ f2_ f3_; subst f4_; subst f5_))
                        refine hK.out _ _ (HS0_) (fun hHeld => ?_)
                        clear hK K
                        refine norm_ (a' := ?_) ?_ ?_
                        rotate_left
                        · show Act.put _ (some 53) _ = _
                          simp only [Act.put, List.setIfInBounds_toArray, List.set_cons_zero, List.set_cons_succ, i64_w, i32_w]
                          rfl
                        refine one_ (i := 10) (N := some 54) #[true, true, true, true, true, true, true, true, true, true, true, false] rfl rfl (one_of HT_.out (by kernel_rfl)) (by decide) (fun K hK => ?_)
                        refine goes_ Try.func34 (by kernel_rfl) rfl #[.int .i64 t243, .slice Ao37 y263.length co37] (by rfl) rfl rfl (by (try simp only [List.map_toArray, List.map_cons, List.map_nil]); first | done | rfl | (simp only [List.length_drop, List.length_take]; rfl)) ?_
                        with_reducible refine (impl_IsCalls.calls k2 t243 _ _ y263 true _ ?side1 ?side2 A25.out).mono ?_
                        (case side1 => repeat (first | exact (Kd.R_reads' HO265.out).2.2 | (with_reducible refine Kd.C_alloc ?_ _) | (with_reducible refine Kd.C_drewN ?_ _) | (with_reducible refine Kd.C_drew ?_)))
                        (case side2 => exact (Kd.R_reads' HO265.out).2.1)
                        rintro e w38 ⟨rfl, hb⟩
                        have HS0_ := (hb.cell (World.block_lt_of_cell? _ _ (hHeld))).trans (hHeld)
                        refine ⟨_, rfl, ?_⟩
                        have n0_ := Aside0.mk (Kd.R_below (by (with_reducible repeat (first | apply Kd.R_alloc | apply Kd.R_drewN | apply Kd.R_drew)); exact HO_4.out) hb)
                        have n1_ := Aside0.mk (Kd.R_below (by (with_reducible repeat (first | apply Kd.R_alloc | apply Kd.R_drewN | apply Kd.R_drew)); exact HO_5.out) hb)
                        have n2_ := Aside0.mk (Kd.R_below (by (with_reducible repeat (first | apply Kd.R_alloc | apply Kd.R_drewN | apply Kd.R_drew)); exact HO262.out) hb)
                        have n3_ := Aside0.mk (Kd.R_below (by (with_reducible repeat (first | apply Kd.R_alloc | apply Kd.R_drewN | apply Kd.R_drew)); exact HO265.out) hb)
                        have n4_ := Aside0.mk (below_step (by repeat (first | (with_reducible first | exact HB.out | apply below_alloc | apply pw_below_drewN | apply below_drew1) | exact HB.out)) hb)
                        clear HO_4
                        clear HO_5
                        clear HO262
                        clear HO265
                        clear HB
                        have HO_4 := n0_
                        have HO_5 := n1_
                        have HO262 := n2_
                        have HO265 := n3_
                        have HB := n4_
                        clear n0_ n1_ n2_ n3_ n4_
                        (try clear hb)
                        (try clear hb2)
                        (try clear hk)
                        (try clear hi)
                        refine hK.out _ _ (HS0_) (fun hHeld => ?_)
                        clear hK K
                        refine norm_ (a' := ?_) ?_ ?_
                        rotate_left
                        · show Act.put _ (some 54) _ = _
                          simp only [Act.put, List.setIfInBounds_toArray, List.set_cons_zero, List.set_cons_succ, i64_w, i32_w]
                          rfl
                        refine pure_ (i := 11) (N := some 55) (v := ?_) (a' := ?_) #[true, true, true, true, true, true, true, true, true, true, true, true] rfl rfl (any_of HT_.out (by kernel_rfl)) (fun _ _ _ h => h) (Or.inl ⟨by rfl, ?_⟩) ?_ ?_
                        rotate_left
                        · intro w'
                          go_simp
                          with_reducible rfl
                        rotate_left
                        · simp only [Act.put, List.setIfInBounds_toArray, List.set_cons_zero, List.set_cons_succ, i64_w, i32_w]
                          rfl
                        refine done_ (done_of HT_.out (by kernel_rfl)) ?_
                        try go_wp2
                        go_roundg k2
                        case measure => have := HJ5.out; have := HK2.out; omega
                        case rel => exact ⟨(wrap64 (x6_2 + 1)), (by first | rfl | (simp; done) | (simp [*]; done)), H', ⟨by have := HJ5.out; have := HK2.out; omega⟩, ⟨by (with_reducible repeat (first | apply Kd.R_alloc | apply Kd.R_drewN | apply Kd.R_drew)); exact Kd.R_mono HO_4.out (fun _ hk => hk.1.1)⟩, ⟨by (with_reducible repeat (first | apply Kd.R_alloc | apply Kd.R_drewN | apply Kd.R_drew)); exact Kd.R_mono HO_5.out (fun _ hk => hk.1.1)⟩, ⟨by repeat (first | (with_reducible first | exact HB.out | apply below_alloc | apply pw_below_drewN | apply below_drew1) | exact HB.out)⟩⟩
                      · replace c26 := Bool.eq_false_iff.mpr c26
                        subst c26
                        have H1 : (some false) = some r := by rw [if_neg (show ¬ (false = true) by decide)] at H; exact H
                        clear H
                        have H := H1
                        clear H1
                        obtain rfl := Option.some.inj H
                        obtain ⟨Ao39, co39, eo39⟩ := Kd.R_slice HO_5.out
                        subst eo39
                        try go_wp2
                        have n0_ := Aside0.mk (Kd.R_drew HO_4.out)
                        have n1_ := Aside0.mk (Kd.R_drew HO_5.out)
                        have n2_ := Aside0.mk (below_drew1 HB.out)
                        clear HO_4
                        clear HO_5
                        clear HB
                        have HO_4 := n0_
                        have HO_5 := n1_
                        have HB := n2_
                        clear n0_ n1_ n2_
                        have p259 : 0 ≤ (x6_2 : Int) := of_decide_eq_true (by first | (with_reducible assumption) | assumption)
                        have q259 : x6_2 < (t247.length : Int) := of_decide_eq_true (by first | (with_reducible assumption) | assumption)
                        obtain ⟨ad259, e259, hx259_0⟩ := Kd.at_int (Kd.R_reads' HO_5.out).2.2 x6_2 p259 q259
                        cases e259
                        replace p259 := eq_true p259
                        replace q259 := eq_true q259
                        refine start_ (n := 12) (S := fun w' => w'.cell? (ad259.add (x6_2).toNat) = some (.int .i64 (rd t247 x6_2))) (ds := []) #[false, false, false, false, false, false, false, false, false, false, false, false] (by kernel_rfl) rfl rfl (hx259_0) (fun hHeld => ?_); refine with_tabW laws_FnCalls.tab10 laws_FnCalls.bits10 (fun HT_ HW_ => ?_)
                        generalize wr.drew = w40 at HO_4 HO_5 HB hx259_0 hHeld ⊢
                        refine pure_ (i := 0) (N := some 44) (v := ?_) (a' := ?_) #[true, false, false, false, false, false, false, false, false, false, false, false] rfl rfl (any_of HT_.out (by kernel_rfl)) (fun _ _ _ h => h) (Or.inl ⟨by rfl, ?_⟩) ?_ ?_
                        rotate_left
                        · intro w'
                          go_simp
                          with_reducible rfl
                        rotate_left
                        · simp only [Act.put, List.setIfInBounds_toArray, List.set_cons_zero, List.set_cons_succ, i64_w, i32_w]
                          rfl
                        refine pure_ (i := 2) (N := some 46) (v := ?_) (a' := ?_) #[true, false, true, false, false, false, false, false, false, false, false, false] rfl rfl (any_of HT_.out (by kernel_rfl)) (fun _ _ _ h => h) (Or.inl ⟨by rfl, ?_⟩) ?_ ?_
                        rotate_left
                        · intro w'
                          go_simp
                          with_reducible rfl
                        rotate_left
                        · simp only [Act.put, List.setIfInBounds_toArray, List.set_cons_zero, List.set_cons_succ, i64_w, i32_w]
                          rfl
                        refine pure_ (i := 4) (N := some 48) (v := ?_) (a' := ?_) #[true, false, true, false, true, false, false, false, false, false, false, false] rfl rfl (any_of HT_.out (by kernel_rfl)) (fun _ _ _ h => h) (Or.inl ⟨by rfl, ?_⟩) ?_ ?_
                        rotate_left
                        · intro w'
                          go_simp
                          with_reducible rfl
                        rotate_left
                        · simp only [Act.put, List.setIfInBounds_toArray, List.set_cons_zero, List.set_cons_succ, i64_w, i32_w]
                          rfl
                        refine pure_ (i := 5) (N := some 49) (v := ?_) (a' := ?_) #[true, false, true, false, true, true, false, false, false, false, false, false] rfl rfl (any_of HT_.out (by kernel_rfl)) (fun _ _ _ h => h) (Or.inl ⟨by rfl, ?_⟩) ?_ ?_
                        rotate_left
                        · intro w'
                          go_simp
                          with_reducible rfl
                        rotate_left
                        · simp only [Act.put, List.setIfInBounds_toArray, List.set_cons_zero, List.set_cons_succ, i64_w, i32_w]
                          rfl
                        refine pure_ (i := 6) (N := some 50) (v := ?_) (a' := ?_) #[true, false, true, false, true, true, true, false, false, false, false, false] rfl rfl (any_of HT_.out (by kernel_rfl)) (fun _ _ _ h => h) (Or.inl ⟨by rfl, ?_⟩) ?_ ?_
                        rotate_left
                        · intro w'
                          go_simp
                          with_reducible rfl
                        rotate_left
                        · simp only [Act.put, List.setIfInBounds_toArray, List.set_cons_zero, List.set_cons_succ, i64_w, i32_w]
                          rfl
                        refine take_ (i := 7) (N := some 51) (v := ?_) (a' := ?_) #[true, false, true, false, true, true, true, true, false, false, false, false] rfl rfl (take_ofW HT_.out HW_.out (by kernel_rfl)) (fun _ _ _ h => h) (Or.inl ⟨by rfl, ?_⟩) hHeld ?_ ?_
                        rotate_left
                        · intro w' s0
                          go_simp
                          with_reducible rfl
                        rotate_left
                        · simp only [Act.put, List.setIfInBounds_toArray, List.set_cons_zero, List.set_cons_succ, i64_w, i32_w]
                          rfl
                        refine join_ (σ := Value × Value × Value) 3 #[true, true, true, true, true, true, true, true, true, false, false, false] (fun s_ => [(45, s_.1), (47, s_.2.1), (52, s_.2.2)]) (fun s_ w' => (w'.cell? (ad259.add (x6_2).toNat) = some (.int .i64 (rd t247 x6_2))) ∧ (Kd.R (Kd.int .i64) 3 w' w.heap.size (fun k_ => some k_ ≠ (s_.2.2 : Value).ownBlock ∧ some k_ ≠ (.slice Ao8 t244.length co8 : Value).ownBlock ∧ some k_ ≠ (.slice (some ad259) t247.length co39 : Value).ownBlock) s_.2.1 y256) ∧ (Kd.R (Kd.int .i64) 3 w' w.heap.size (fun k_ => some k_ ≠ (s_.2.1 : Value).ownBlock ∧ some k_ ≠ (.slice Ao8 t244.length co8 : Value).ownBlock ∧ some k_ ≠ (.slice (some ad259) t247.length co39 : Value).ownBlock) s_.2.2 y260) ∧ (Kd.R (Kd.int .i64) 3 w' w.heap.size (fun k_ => some k_ ≠ (s_.2.1 : Value).ownBlock ∧ some k_ ≠ (s_.2.2 : Value).ownBlock ∧ some k_ ≠ (.slice (some ad259) t247.length co39 : Value).ownBlock) (.slice Ao8 t244.length co8) t244) ∧ (Kd.R (Kd.int .i64) 3 w' w.heap.size (fun k_ => some k_ ≠ (s_.2.1 : Value).ownBlock ∧ some k_ ≠ (s_.2.2 : Value).ownBlock ∧ some k_ ≠ (.slice Ao8 t244.length co8 : Value).ownBlock) (.slice (some ad259) t247.length co39) t247) ∧ (Below w.heap.size w w')) ?_ ?_
                        rotate_left
                        · intro hCont
                          refine two_ (i := 1) (j := 8) (Ni := some 45) (Nj := some 52) #[true, true, true, false, true, true, true, true, false, false, false, false] #[true, false, true, false, true, true, true, true, true, false, false, false] rfl rfl rfl rfl (two_of HT_.out (by kernel_rfl)) (by decide) (by decide) (fun K hK => ?_) (fun K hK => ?_)
                          · skip
                            refine Kd.R_lit_step (Kd.int .i64) _ 3 ?hg (N := 45) ?hd (xs := ([] : List Int)) (inner := []) (ok := fun _ => True) (okp := fun _ => True) ?hr ?hp (fun _ hk => hk) trivial (Below.refl _ _) (Nat.le_refl _) (by simp) ?_; (case hd => rfl); (case hg => rfl); (case hr => first | (go_simp; done) | (go_simp; rfl)); (case hp => exact (Reps.none _ _))
                            intro v254 w41 ho42 hb hg_ hnew_
                            have HS0_ := (hb.cell (World.block_lt_of_cell? _ _ (hHeld))).trans (hHeld)
                            clear hg_ hnew_
                            (first | rw [← Ny253.out] at ho42 | (simp only [Int.reduceToNat] at ho42; rw [← Ny253.out] at ho42))
                            have n0_ := Aside0.mk (Kd.R_elder' (by (with_reducible repeat (first | apply Kd.R_alloc | apply Kd.R_drewN | apply Kd.R_drew)); exact HO_4.out) (Kd.R_base ho42) hb)
                            have n1_ := Aside0.mk (Kd.R_elder' (by (with_reducible repeat (first | apply Kd.R_alloc | apply Kd.R_drewN | apply Kd.R_drew)); exact HO_5.out) (Kd.R_base ho42) hb)
                            have n2_ := Aside0.mk (Kd.R_lower (Kd.R_new' (Kd.R_new' ho42 (Kd.R_lt (by (with_reducible repeat (first | apply Kd.R_alloc | apply Kd.R_drewN | apply Kd.R_drew)); exact HO_4.out))) (Kd.R_lt (by (with_reducible repeat (first | apply Kd.R_alloc | apply Kd.R_drewN | apply Kd.R_drew)); exact HO_5.out))) (below_size (by repeat (first | (with_reducible first | exact HB.out | apply below_alloc | apply pw_below_drewN | apply below_drew1) | exact HB.out))))
                            have n3_ := Aside0.mk (below_step (by repeat (first | (with_reducible first | exact HB.out | apply below_alloc | apply pw_below_drewN | apply below_drew1) | exact HB.out)) hb)
                            clear HO_4
                            clear HO_5
                            clear HB
                            have HO_4 := n0_
                            have HO_5 := n1_
                            have HO255 := n2_
                            have HB := n3_
                            clear n0_ n1_ n2_ n3_
                            clear hb ho42
                            refine hK.out _ _ (HS0_) (fun hHeld => ?_)
                            clear hK K
                            refine norm_ (a' := ?_) ?_ ?_
                            rotate_left
                            · show Act.put _ (some 45) _ = _
                              simp only [Act.put, List.setIfInBounds_toArray, List.set_cons_zero, List.set_cons_succ, i64_w, i32_w]
                              rfl
                            refine two_ (i := 3) (j := 8) (Ni := some 47) (Nj := some 52) #[true, true, true, true, true, true, true, true, false, false, false, false] #[true, true, true, false, true, true, true, true, true, false, false, false] rfl rfl rfl rfl (two_of HT_.out (by kernel_rfl)) (by decide) (by decide) (fun K hK => ?_) (fun K hK => ?_)
                            · skip
                              refine Kd.R_append_rows_step (Kd.int .i64) (w0 := w) w.heap.size (by rfl) (.tmp 45) (.tmp 46) 22 3 (.int .i64 0) 8 rfl Try.underlying22 info3 rfl (by decide) (by omega) v254 y253 t244 _ _ _ (fun k_ => some k_ ≠ (.slice Ao8 t244.length co8 : Value).ownBlock ∧ some k_ ≠ (.slice (some ad259) t247.length co39 : Value).ownBlock) (fun _ => False) rfl rfl ?aO ?aR (fun _ _ h => h) (fun _ h => h.elim) ?aF ?aB ?aS ?aL ?_
                              (case aR => repeat (first | exact (Kd.R_reads' HO_4.out).2.2 | (with_reducible refine Kd.C_alloc ?_ _) | (with_reducible refine Kd.C_drewN ?_ _) | (with_reducible refine Kd.C_drew ?_)))
                              (case aB => exact (by repeat (first | (with_reducible first | exact HB.out | apply below_alloc | apply pw_below_drewN | apply below_drew1) | exact HB.out)))
                              (case aF => exact (fun k_ hk => ⟨Kd.fresh' (Kd.R_lt (by (with_reducible repeat (first | apply Kd.R_alloc | apply Kd.R_drewN | apply Kd.R_drew)); exact HO_4.out)) k_ hk, Kd.fresh' (Kd.R_lt (by (with_reducible repeat (first | apply Kd.R_alloc | apply Kd.R_drewN | apply Kd.R_drew)); exact HO_5.out)) k_ hk⟩))
                              (case aO => exact (by (with_reducible repeat (first | apply Kd.R_alloc | apply Kd.R_drewN | apply Kd.R_drew)); exact Kd.R_mono HO255.out (fun _ hk => ⟨hk.1.2, hk.2⟩)))
                              (case aS => exact (below_size (by repeat (first | (with_reducible first | exact HB.out | apply below_alloc | apply pw_below_drewN | apply below_drew1) | exact HB.out))))
                              (case aL => have := LMc22.out; omega)
                              intro v257 w43 ho hb hg hat
                              (first | have HS0_ := cell_grown hg (hHeld) (by have h_ := HO_5.out.1 _ rfl; first | (rw [add_block]; first | exact h_ | exact h_.1 | exact h_.2 | exact h_.1.1 | exact h_.1.2 | exact h_.2.1 | exact h_.2.2 | exact h_.1.1.1 | exact h_.1.1.2 | exact h_.1.2.1 | exact h_.1.2.2 | exact h_.2.1.1 | exact h_.2.1.2 | exact h_.2.2.1 | exact h_.2.2.2 | exact h_.1.1.1.1 | exact h_.1.1.1.2 | exact h_.1.1.2.1 | exact h_.1.1.2.2 | exact h_.1.2.1.1 | exact h_.1.2.1.2 | exact h_.1.2.2.1 | exact h_.1.2.2.2 | exact h_.2.1.1.1 | exact h_.2.1.1.2 | exact h_.2.1.2.1 | exact h_.2.1.2.2 | exact h_.2.2.1.1 | exact h_.2.2.1.2 | exact h_.2.2.2.1 | exact h_.2.2.2.2) | (show some (Addr.add _ _).block ≠ _; rw [add_block]; first | exact h_ | exact h_.1 | exact h_.2 | exact h_.1.1 | exact h_.1.2 | exact h_.2.1 | exact h_.2.2 | exact h_.1.1.1 | exact h_.1.1.2 | exact h_.1.2.1 | exact h_.1.2.2 | exact h_.2.1.1 | exact h_.2.1.2 | exact h_.2.2.1 | exact h_.2.2.2 | exact h_.1.1.1.1 | exact h_.1.1.1.2 | exact h_.1.1.2.1 | exact h_.1.1.2.2 | exact h_.1.2.1.1 | exact h_.1.2.1.2 | exact h_.1.2.2.1 | exact h_.1.2.2.2 | exact h_.2.1.1.1 | exact h_.2.1.1.2 | exact h_.2.1.2.1 | exact h_.2.1.2.2 | exact h_.2.2.1.1 | exact h_.2.2.1.2 | exact h_.2.2.2.1 | exact h_.2.2.2.2) | (first | exact h_ | exact h_.1 | exact h_.2 | exact h_.1.1 | exact h_.1.2 | exact h_.2.1 | exact h_.2.2 | exact h_.1.1.1 | exact h_.1.1.2 | exact h_.1.2.1 | exact h_.1.2.2 | exact h_.2.1.1 | exact h_.2.1.2 | exact h_.2.2.1 | exact h_.2.2.2 | exact h_.1.1.1.1 | exact h_.1.1.1.2 | exact h_.1.1.2.1 | exact h_.1.1.2.2 | exact h_.1.2.1.1 | exact h_.1.2.1.2 | exact h_.1.2.2.1 | exact h_.1.2.2.2 | exact h_.2.1.1.1 | exact h_.2.1.1.2 | exact h_.2.1.2.1 | exact h_.2.1.2.2 | exact h_.2.2.1.1 | exact h_.2.2.1.2 | exact h_.2.2.2.1 | exact h_.2.2.2.2)) | have HS0_ := cell_grown hg (cell_unalloc (hHeld) (by have h_ := Kd.R_lt HO_5.out _ rfl; first | (rw [add_block]; exact h_) | (show (Addr.add _ _).block < _; rw [add_block]; exact h_) | exact h_)) (by have h_ := HO_5.out.1 _ rfl; first | (rw [add_block]; first | exact h_ | exact h_.1 | exact h_.2 | exact h_.1.1 | exact h_.1.2 | exact h_.2.1 | exact h_.2.2 | exact h_.1.1.1 | exact h_.1.1.2 | exact h_.1.2.1 | exact h_.1.2.2 | exact h_.2.1.1 | exact h_.2.1.2 | exact h_.2.2.1 | exact h_.2.2.2 | exact h_.1.1.1.1 | exact h_.1.1.1.2 | exact h_.1.1.2.1 | exact h_.1.1.2.2 | exact h_.1.2.1.1 | exact h_.1.2.1.2 | exact h_.1.2.2.1 | exact h_.1.2.2.2 | exact h_.2.1.1.1 | exact h_.2.1.1.2 | exact h_.2.1.2.1 | exact h_.2.1.2.2 | exact h_.2.2.1.1 | exact h_.2.2.1.2 | exact h_.2.2.2.1 | exact h_.2.2.2.2) | (show some (Addr.add _ _).block ≠ _; rw [add_block]; first | exact h_ | exact h_.1 | exact h_.2 | exact h_.1.1 | exact h_.1.2 | exact h_.2.1 | exact h_.2.2 | exact h_.1.1.1 | exact h_.1.1.2 | exact h_.1.2.1 | exact h_.1.2.2 | exact h_.2.1.1 | exact h_.2.1.2 | exact h_.2.2.1 | exact h_.2.2.2 | exact h_.1.1.1.1 | exact h_.1.1.1.2 | exact h_.1.1.2.1 | exact h_.1.1.2.2 | exact h_.1.2.1.1 | exact h_.1.2.1.2 | exact h_.1.2.2.1 | exact h_.1.2.2.2 | exact h_.2.1.1.1 | exact h_.2.1.1.2 | exact h_.2.1.2.1 | exact h_.2.1.2.2 | exact h_.2.2.1.1 | exact h_.2.2.1.2 | exact h_.2.2.2.1 | exact h_.2.2.2.2) | (first | exact h_ | exact h_.1 | exact h_.2 | exact h_.1.1 | exact h_.1.2 | exact h_.2.1 | exact h_.2.2 | exact h_.1.1.1 | exact h_.1.1.2 | exact h_.1.2.1 | exact h_.1.2.2 | exact h_.2.1.1 | exact h_.2.1.2 | exact h_.2.2.1 | exact h_.2.2.2 | exact h_.1.1.1.1 | exact h_.1.1.1.2 | exact h_.1.1.2.1 | exact h_.1.1.2.2 | exact h_.1.2.1.1 | exact h_.1.2.1.2 | exact h_.1.2.2.1 | exact h_.1.2.2.2 | exact h_.2.1.1.1 | exact h_.2.1.1.2 | exact h_.2.1.2.1 | exact h_.2.1.2.2 | exact h_.2.2.1.1 | exact h_.2.2.1.2 | exact h_.2.2.2.1 | exact h_.2.2.2.2)))
                              rw [← Ny256.out] at ho
                              have n0_ := Aside0.mk (Kd.R_after (ok := (fun k_ => some k_ ≠ (.slice (some ad259) t247.length co39 : Value).ownBlock)) (by (with_reducible repeat (first | apply Kd.R_alloc | apply Kd.R_drewN | apply Kd.R_drew)); exact HO_4.out) hg hat)
                              have n1_ := Aside0.mk (Kd.R_after (ok := (fun k_ => some k_ ≠ (.slice Ao8 t244.length co8 : Value).ownBlock)) (by (with_reducible repeat (first | apply Kd.R_alloc | apply Kd.R_drewN | apply Kd.R_drew)); exact HO_5.out) hg hat)
                              have n2_ := Aside0.mk (hb)
                              have n3_ := Aside0.mk (ho)
                              clear HO_4
                              clear HO_5
                              clear HB
                              clear HO255
                              have HO_4 := n0_
                              have HO_5 := n1_
                              have HB := n2_
                              have HO258 := n3_
                              clear n0_ n1_ n2_ n3_
                              clear ho hb hg hat
                              refine hK.out _ _ (HS0_) (fun hHeld => ?_)
                              clear hK K
                              refine norm_ (a' := ?_) ?_ ?_
                              rotate_left
                              · show Act.put _ (some 47) _ = _
                                simp only [Act.put, List.setIfInBounds_toArray, List.set_cons_zero, List.set_cons_succ, i64_w, i32_w]
                                rfl
                              refine one_ (i := 8) (N := some 52) #[true, true, true, true, true, true, true, true, true, false, false, false] rfl rfl (one_of HT_.out (by kernel_rfl)) (by decide) (fun K hK => ?_)
                              refine Kd.R_lit_step (Kd.int .i64) _ 3 ?hg (N := 52) ?hd (xs := ([rd t247 x6_2] : List Int)) (inner := [.int .i64 (rd t247 x6_2)]) (ok := fun _ => True) (okp := fun _ => True) ?hr ?hp (fun _ hk => hk) trivial (Below.refl _ _) (Nat.le_refl _) (by simp) ?_; (case hd => rfl); (case hg => rfl); (case hr => first | (go_simp; done) | (go_simp; rfl)); (case hp => exact (Reps.one (show Kd.M (Kd.int .i64) _ _ _ (rd t247 x6_2) [.int .i64 (rd t247 x6_2)] from rfl) (Reps.none _ _)))
                              intro v261 w44 ho45 hb hg_ hnew_
                              have HS0_ := (hb.cell (World.block_lt_of_cell? _ _ (hHeld))).trans (hHeld)
                              clear hg_ hnew_
                              (first | rw [← Ny260.out] at ho45 | (simp only [Int.reduceToNat] at ho45; rw [← Ny260.out] at ho45))
                              have n0_ := Aside0.mk (Kd.R_elder' (by (with_reducible repeat (first | apply Kd.R_alloc | apply Kd.R_drewN | apply Kd.R_drew)); exact HO_4.out) (Kd.R_base ho45) hb)
                              have n1_ := Aside0.mk (Kd.R_elder' (by (with_reducible repeat (first | apply Kd.R_alloc | apply Kd.R_drewN | apply Kd.R_drew)); exact HO_5.out) (Kd.R_base ho45) hb)
                              have n2_ := Aside0.mk (Kd.R_elder' (by (with_reducible repeat (first | apply Kd.R_alloc | apply Kd.R_drewN | apply Kd.R_drew)); exact HO258.out) (Kd.R_base ho45) hb)
                              have n3_ := Aside0.mk (Kd.R_lower (Kd.R_new' (Kd.R_new' (Kd.R_new' ho45 (Kd.R_lt (by (with_reducible repeat (first | apply Kd.R_alloc | apply Kd.R_drewN | apply Kd.R_drew)); exact HO_4.out))) (Kd.R_lt (by (with_reducible repeat (first | apply Kd.R_alloc | apply Kd.R_drewN | apply Kd.R_drew)); exact HO_5.out))) (Kd.R_lt (by (with_reducible repeat (first | apply Kd.R_alloc | apply Kd.R_drewN | apply Kd.R_drew)); exact HO258.out))) (below_size (by repeat (first | (with_reducible first | exact HB.out | apply below_alloc | apply pw_below_drewN | apply below_drew1) | exact HB.out))))
                              have n4_ := Aside0.mk (below_step (by repeat (first | (with_reducible first | exact HB.out | apply below_alloc | apply pw_below_drewN | apply below_drew1) | exact HB.out)) hb)
                              clear HO_4
                              clear HO_5
                              clear HO258
                              clear HB
                              have HO_4 := n0_
                              have HO_5 := n1_
                              have HO258 := n2_
                              have HO262 := n3_
                              have HB := n4_
                              clear n0_ n1_ n2_ n3_ n4_
                              clear hb ho45
                              refine hK.out _ _ (HS0_) (fun hHeld => ?_)
                              clear hK K
                              refine norm_ (a' := ?_) ?_ ?_
                              rotate_left
                              · show Act.put _ (some 52) _ = _
                                simp only [Act.put, List.setIfInBounds_toArray, List.set_cons_zero, List.set_cons_succ, i64_w, i32_w]
                                rfl
                              exact norm_ (by simp only [putAll, Act.put, List.setIfInBounds_toArray, List.set_cons_zero, List.set_cons_succ]) (hCont (v254, v257, v261) _ ⟨hHeld, (by (with_reducible repeat (first | apply Kd.R_alloc | apply Kd.R_drewN | apply Kd.R_drew)); exact Kd.R_mono HO258.out (fun _ hk => ⟨hk.2, ⟨hk.1.1, hk.1.2⟩⟩)), (by (with_reducible repeat (first | apply Kd.R_alloc | apply Kd.R_drewN | apply Kd.R_drew)); exact Kd.R_mono HO262.out (fun _ hk => ⟨hk.2, ⟨hk.1.1.2, hk.1.2⟩⟩)), (by (with_reducible repeat (first | apply Kd.R_alloc | apply Kd.R_drewN | apply Kd.R_drew)); exact Kd.R_mono HO_4.out (fun _ hk => ⟨hk.1.2, ⟨hk.2, hk.1.1⟩⟩)), (by (with_reducible repeat (first | apply Kd.R_alloc | apply Kd.R_drewN | apply Kd.R_drew)); exact Kd.R_mono HO_5.out (fun _ hk => ⟨hk.1.2, ⟨hk.2, hk.1.1⟩⟩)), (by repeat (first | (with_reducible first | exact HB.out | apply below_alloc | apply pw_below_drewN | apply below_drew1) | exact HB.out))⟩)
                            · skip
                              refine Kd.R_lit_step (Kd.int .i64) _ 3 ?hg (N := 52) ?hd (xs := ([rd t247 x6_2] : List Int)) (inner := [.int .i64 (rd t247 x6_2)]) (ok := fun _ => True) (okp := fun _ => True) ?hr ?hp (fun _ hk => hk) trivial (Below.refl _ _) (Nat.le_refl _) (by simp) ?_; (case hd => rfl); (case hg => rfl); (case hr => first | (go_simp; done) | (go_simp; rfl)); (case hp => exact (Reps.one (show Kd.M (Kd.int .i64) _ _ _ (rd t247 x6_2) [.int .i64 (rd t247 x6_2)] from rfl) (Reps.none _ _)))
                              intro v261 w43 ho44 hb hg_ hnew_
                              have HS0_ := (hb.cell (World.block_lt_of_cell? _ _ (hHeld))).trans (hHeld)
                              clear hg_ hnew_
                              (first | rw [← Ny260.out] at ho44 | (simp only [Int.reduceToNat] at ho44; rw [← Ny260.out] at ho44))
                              have n0_ := Aside0.mk (Kd.R_elder' (by (with_reducible repeat (first | apply Kd.R_alloc | apply Kd.R_drewN | apply Kd.R_drew)); exact HO_4.out) (Kd.R_base ho44) hb)
                              have n1_ := Aside0.mk (Kd.R_elder' (by (with_reducible repeat (first | apply Kd.R_alloc | apply Kd.R_drewN | apply Kd.R_drew)); exact HO_5.out) (Kd.R_base ho44) hb)
                              have n2_ := Aside0.mk (Kd.R_elder' (by (with_reducible repeat (first | apply Kd.R_alloc | apply Kd.R_drewN | apply Kd.R_drew)); exact HO255.out) (Kd.R_base ho44) hb)
                              have n3_ := Aside0.mk (Kd.R_lower (Kd.R_new' (Kd.R_new' (Kd.R_new' ho44 (Kd.R_lt (by (with_reducible repeat (first | apply Kd.R_alloc | apply Kd.R_drewN | apply Kd.R_drew)); exact HO_4.out))) (Kd.R_lt (by (with_reducible repeat (first | apply Kd.R_alloc | apply Kd.R_drewN | apply Kd.R_drew)); exact HO_5.out))) (Kd.R_lt (by (with_reducible repeat (first | apply Kd.R_alloc | apply Kd.R_drewN | apply Kd.R_drew)); exact HO255.out))) (below_size (by repeat (first | (with_reducible first | exact HB.out | apply below_alloc | apply pw_below_drewN | apply below_drew1) | exact HB.out))))
                              have n4_ := Aside0.mk (below_step (by repeat (first | (with_reducible first | exact HB.out | apply below_alloc | apply pw_below_drewN | apply below_drew1) | exact HB.out)) hb)
                              clear HO_4
                              clear HO_5
                              clear HO255
                              clear HB
                              have HO_4 := n0_
                              have HO_5 := n1_
                              have HO255 := n2_
                              have HO262 := n3_
                              have HB := n4_
                              clear n0_ n1_ n2_ n3_ n4_
                              clear hb ho44
                              refine hK.out _ _ (HS0_) (fun hHeld => ?_)
                              clear hK K
                              refine norm_ (a' := ?_) ?_ ?_
                              rotate_left
                              · show Act.put _ (some 52) _ = _
                                simp only [Act.put, List.setIfInBounds_toArray, List.set_cons_zero, List.set_cons_succ, i64_w, i32_w]
                                rfl
                              refine one_ (i := 3) (N := some 47) #[true, true, true, true, true, true, true, true, true, false, false, false] rfl rfl (one_of HT_.out (by kernel_rfl)) (by decide) (fun K hK => ?_)
                              refine Kd.R_append_rows_step (Kd.int .i64) (w0 := w) w.heap.size (by rfl) (.tmp 45) (.tmp 46) 22 3 (.int .i64 0) 8 rfl Try.underlying22 info3 rfl (by decide) (by omega) v254 y253 t244 _ _ _ (fun k_ => some k_ ≠ (.slice Ao8 t244.length co8 : Value).ownBlock ∧ some k_ ≠ (.slice (some ad259) t247.length co39 : Value).ownBlock ∧ some k_ ≠ (v261 : Value).ownBlock) (fun _ => False) rfl rfl ?aO ?aR (fun _ _ h => h) (fun _ h => h.elim) ?aF ?aB ?aS ?aL ?_
                              (case aR => repeat (first | exact (Kd.R_reads' HO_4.out).2.2 | (with_reducible refine Kd.C_alloc ?_ _) | (with_reducible refine Kd.C_drewN ?_ _) | (with_reducible refine Kd.C_drew ?_)))
                              (case aB => exact (by repeat (first | (with_reducible first | exact HB.out | apply below_alloc | apply pw_below_drewN | apply below_drew1) | exact HB.out)))
                              (case aF => exact (fun k_ hk => ⟨Kd.fresh' (Kd.R_lt (by (with_reducible repeat (first | apply Kd.R_alloc | apply Kd.R_drewN | apply Kd.R_drew)); exact HO_4.out)) k_ hk, Kd.fresh' (Kd.R_lt (by (with_reducible repeat (first | apply Kd.R_alloc | apply Kd.R_drewN | apply Kd.R_drew)); exact HO_5.out)) k_ hk, Kd.fresh' (Kd.R_lt (by (with_reducible repeat (first | apply Kd.R_alloc | apply Kd.R_drewN | apply Kd.R_drew)); exact HO262.out)) k_ hk⟩))
                              (case aO => exact (by (with_reducible repeat (first | apply Kd.R_alloc | apply Kd.R_drewN | apply Kd.R_drew)); exact Kd.R_mono HO255.out (fun _ hk => ⟨hk.1.1.2, ⟨hk.1.2, hk.2⟩⟩)))
                              (case aS => exact (below_size (by repeat (first | (with_reducible first | exact HB.out | apply below_alloc | apply pw_below_drewN | apply below_drew1) | exact HB.out))))
                              (case aL => have := LMc22.out; omega)
                              intro v257 w45 ho hb hg hat
                              (first | have HS0_ := cell_grown hg (hHeld) (by have h_ := HO_5.out.1 _ rfl; first | (rw [add_block]; first | exact h_ | exact h_.1 | exact h_.2 | exact h_.1.1 | exact h_.1.2 | exact h_.2.1 | exact h_.2.2 | exact h_.1.1.1 | exact h_.1.1.2 | exact h_.1.2.1 | exact h_.1.2.2 | exact h_.2.1.1 | exact h_.2.1.2 | exact h_.2.2.1 | exact h_.2.2.2 | exact h_.1.1.1.1 | exact h_.1.1.1.2 | exact h_.1.1.2.1 | exact h_.1.1.2.2 | exact h_.1.2.1.1 | exact h_.1.2.1.2 | exact h_.1.2.2.1 | exact h_.1.2.2.2 | exact h_.2.1.1.1 | exact h_.2.1.1.2 | exact h_.2.1.2.1 | exact h_.2.1.2.2 | exact h_.2.2.1.1 | exact h_.2.2.1.2 | exact h_.2.2.2.1 | exact h_.2.2.2.2) | (show some (Addr.add _ _).block ≠ _; rw [add_block]; first | exact h_ | exact h_.1 | exact h_.2 | exact h_.1.1 | exact h_.1.2 | exact h_.2.1 | exact h_.2.2 | exact h_.1.1.1 | exact h_.1.1.2 | exact h_.1.2.1 | exact h_.1.2.2 | exact h_.2.1.1 | exact h_.2.1.2 | exact h_.2.2.1 | exact h_.2.2.2 | exact h_.1.1.1.1 | exact h_.1.1.1.2 | exact h_.1.1.2.1 | exact h_.1.1.2.2 | exact h_.1.2.1.1 | exact h_.1.2.1.2 | exact h_.1.2.2.1 | exact h_.1.2.2.2 | exact h_.2.1.1.1 | exact h_.2.1.1.2 | exact h_.2.1.2.1 | exact h_.2.1.2.2 | exact h_.2.2.1.1 | exact h_.2.2.1.2 | exact h_.2.2.2.1 | exact h_.2.2.2.2) | (first | exact h_ | exact h_.1 | exact h_.2 | exact h_.1.1 | exact h_.1.2 | exact h_.2.1 | exact h_.2.2 | exact h_.1.1.1 | exact h_.1.1.2 | exact h_.1.2.1 | exact h_.1.2.2 | exact h_.2.1.1 | exact h_.2.1.2 | exact h_.2.2.1 | exact h_.2.2.2 | exact h_.1.1.1.1 | exact h_.1.1.1.2 | exact h_.1.1.2.1 | exact h_.1.1.2.2 | exact h_.1.2.1.1 | exact h_.1.2.1.2 | exact h_.1.2.2.1 | exact h_.1.2.2.2 | exact h_.2.1.1.1 | exact h_.2.1.1.2 | exact h_.2.1.2.1 | exact h_.2.1.2.2 | exact h_.2.2.1.1 | exact h_.2.2.1.2 | exact h_.2.2.2.1 | exact h_.2.2.2.2)) | have HS0_ := cell_grown hg (cell_unalloc (hHeld) (by have h_ := Kd.R_lt HO_5.out _ rfl; first | (rw [add_block]; exact h_) | (show (Addr.add _ _).block < _; rw [add_block]; exact h_) | exact h_)) (by have h_ := HO_5.out.1 _ rfl; first | (rw [add_block]; first | exact h_ | exact h_.1 | exact h_.2 | exact h_.1.1 | exact h_.1.2 | exact h_.2.1 | exact h_.2.2 | exact h_.1.1.1 | exact h_.1.1.2 | exact h_.1.2.1 | exact h_.1.2.2 | exact h_.2.1.1 | exact h_.2.1.2 | exact h_.2.2.1 | exact h_.2.2.2 | exact h_.1.1.1.1 | exact h_.1.1.1.2 | exact h_.1.1.2.1 | exact h_.1.1.2.2 | exact h_.1.2.1.1 | exact h_.1.2.1.2 | exact h_.1.2.2.1 | exact h_.1.2.2.2 | exact h_.2.1.1.1 | exact h_.2.1.1.2 | exact h_.2.1.2.1 | exact h_.2.1.2.2 | exact h_.2.2.1.1 | exact h_.2.2.1.2 | exact h_.2.2.2.1 | exact h_.2.2.2.2) | (show some (Addr.add _ _).block ≠ _; rw [add_block]; first | exact h_ | exact h_.1 | exact h_.2 | exact h_.1.1 | exact h_.1.2 | exact h_.2.1 | exact h_.2.2 | exact h_.1.1.1 | exact h_.1.1.2 | exact h_.1.2.1 | exact h_.1.2.2 | exact h_.2.1.1 | exact h_.2.1.2 | exact h_.2.2.1 | exact h_.2.2.2 | exact h_.1.1.1.1 | exact h_.1.1.1.2 | exact h_.1.1.2.1 | exact h_.1.1.2.2 | exact h_.1.2.1.1 | exact h_.1.2.1.2 | exact h_.1.2.2.1 | exact h_.1.2.2.2 | exact h_.2.1.1.1 | exact h_.2.1.1.2 | exact h_.2.1.2.1 | exact h_.2.1.2.2 | exact h_.2.2.1.1 | exact h_.2.2.1.2 | exact h_.2.2.2.1 | exact h_.2.2.2.2) | (first | exact h_ | exact h_.1 | exact h_.2 | exact h_.1.1 | exact h_.1.2 | exact h_.2.1 | exact h_.2.2 | exact h_.1.1.1 | exact h_.1.1.2 | exact h_.1.2.1 | exact h_.1.2.2 | exact h_.2.1.1 | exact h_.2.1.2 | exact h_.2.2.1 | exact h_.2.2.2 | exact h_.1.1.1.1 | exact h_.1.1.1.2 | exact h_.1.1.2.1 | exact h_.1.1.2.2 | exact h_.1.2.1.1 | exact h_.1.2.1.2 | exact h_.1.2.2.1 | exact h_.1.2.2.2 | exact h_.2.1.1.1 | exact h_.2.1.1.2 | exact h_.2.1.2.1 | exact h_.2.1.2.2 | exact h_.2.2.1.1 | exact h_.2.2.1.2 | exact h_.2.2.2.1 | exact h_.2.2.2.2)))
                              rw [← Ny256.out] at ho
                              have n0_ := Aside0.mk (Kd.R_after (ok := (fun k_ => some k_ ≠ (.slice (some ad259) t247.length co39 : Value).ownBlock ∧ some k_ ≠ (v261 : Value).ownBlock)) (by (with_reducible repeat (first | apply Kd.R_alloc | apply Kd.R_drewN | apply Kd.R_drew)); exact Kd.R_mono HO_4.out (fun _ hk => ⟨⟨hk.1.1, hk.2⟩, hk.1.2⟩)) hg hat)
                              have n1_ := Aside0.mk (Kd.R_after (ok := (fun k_ => some k_ ≠ (.slice Ao8 t244.length co8 : Value).ownBlock ∧ some k_ ≠ (v261 : Value).ownBlock)) (by (with_reducible repeat (first | apply Kd.R_alloc | apply Kd.R_drewN | apply Kd.R_drew)); exact Kd.R_mono HO_5.out (fun _ hk => ⟨⟨hk.1.1, hk.2⟩, hk.1.2⟩)) hg hat)
                              have n2_ := Aside0.mk (Kd.R_after (ok := (fun k_ => some k_ ≠ (.slice Ao8 t244.length co8 : Value).ownBlock ∧ some k_ ≠ (.slice (some ad259) t247.length co39 : Value).ownBlock)) (by (with_reducible repeat (first | apply Kd.R_alloc | apply Kd.R_drewN | apply Kd.R_drew)); exact Kd.R_mono HO262.out (fun _ hk => ⟨⟨hk.1.1.2, hk.1.2⟩, hk.2⟩)) hg hat)
                              have n3_ := Aside0.mk (hb)
                              have n4_ := Aside0.mk (ho)
                              clear HO_4
                              clear HO_5
                              clear HO262
                              clear HB
                              clear HO255
                              have HO_4 := n0_
                              have HO_5 := n1_
                              have HO262 := n2_
                              have HB := n3_
                              have HO258 := n4_
                              clear n0_ n1_ n2_ n3_ n4_
                              clear ho hb hg hat
                              refine hK.out _ _ (HS0_) (fun hHeld => ?_)
                              clear hK K
                              refine norm_ (a' := ?_) ?_ ?_
                              rotate_left
                              · show Act.put _ (some 47) _ = _
                                simp only [Act.put, List.setIfInBounds_toArray, List.set_cons_zero, List.set_cons_succ, i64_w, i32_w]
                                rfl
                              exact norm_ (by simp only [putAll, Act.put, List.setIfInBounds_toArray, List.set_cons_zero, List.set_cons_succ]) (hCont (v254, v257, v261) _ ⟨hHeld, (by (with_reducible repeat (first | apply Kd.R_alloc | apply Kd.R_drewN | apply Kd.R_drew)); exact Kd.R_mono HO258.out (fun _ hk => ⟨hk.2.2, ⟨hk.1, hk.2.1⟩⟩)), (by (with_reducible repeat (first | apply Kd.R_alloc | apply Kd.R_drewN | apply Kd.R_drew)); exact Kd.R_mono HO262.out (fun _ hk => ⟨hk.2, ⟨hk.1.1, hk.1.2⟩⟩)), (by (with_reducible repeat (first | apply Kd.R_alloc | apply Kd.R_drewN | apply Kd.R_drew)); exact Kd.R_mono HO_4.out (fun _ hk => ⟨hk.2, ⟨hk.1.2, hk.1.1⟩⟩)), (by (with_reducible repeat (first | apply Kd.R_alloc | apply Kd.R_drewN | apply Kd.R_drew)); exact Kd.R_mono HO_5.out (fun _ hk => ⟨hk.2, ⟨hk.1.2, hk.1.1⟩⟩)), (by repeat (first | (with_reducible first | exact HB.out | apply below_alloc | apply pw_below_drewN | apply below_drew1) | exact HB.out))⟩)
                          · skip
                            refine Kd.R_lit_step (Kd.int .i64) _ 3 ?hg (N := 52) ?hd (xs := ([rd t247 x6_2] : List Int)) (inner := [.int .i64 (rd t247 x6_2)]) (ok := fun _ => True) (okp := fun _ => True) ?hr ?hp (fun _ hk => hk) trivial (Below.refl _ _) (Nat.le_refl _) (by simp) ?_; (case hd => rfl); (case hg => rfl); (case hr => first | (go_simp; done) | (go_simp; rfl)); (case hp => exact (Reps.one (show Kd.M (Kd.int .i64) _ _ _ (rd t247 x6_2) [.int .i64 (rd t247 x6_2)] from rfl) (Reps.none _ _)))
                            intro v261 w41 ho42 hb hg_ hnew_
                            have HS0_ := (hb.cell (World.block_lt_of_cell? _ _ (hHeld))).trans (hHeld)
                            clear hg_ hnew_
                            (first | rw [← Ny260.out] at ho42 | (simp only [Int.reduceToNat] at ho42; rw [← Ny260.out] at ho42))
                            have n0_ := Aside0.mk (Kd.R_elder' (by (with_reducible repeat (first | apply Kd.R_alloc | apply Kd.R_drewN | apply Kd.R_drew)); exact HO_4.out) (Kd.R_base ho42) hb)
                            have n1_ := Aside0.mk (Kd.R_elder' (by (with_reducible repeat (first | apply Kd.R_alloc | apply Kd.R_drewN | apply Kd.R_drew)); exact HO_5.out) (Kd.R_base ho42) hb)
                            have n2_ := Aside0.mk (Kd.R_lower (Kd.R_new' (Kd.R_new' ho42 (Kd.R_lt (by (with_reducible repeat (first | apply Kd.R_alloc | apply Kd.R_drewN | apply Kd.R_drew)); exact HO_4.out))) (Kd.R_lt (by (with_reducible repeat (first | apply Kd.R_alloc | apply Kd.R_drewN | apply Kd.R_drew)); exact HO_5.out))) (below_size (by repeat (first | (with_reducible first | exact HB.out | apply below_alloc | apply pw_below_drewN | apply below_drew1) | exact HB.out))))
                            have n3_ := Aside0.mk (below_step (by repeat (first | (with_reducible first | exact HB.out | apply below_alloc | apply pw_below_drewN | apply below_drew1) | exact HB.out)) hb)
                            clear HO_4
                            clear HO_5
                            clear HB
                            have HO_4 := n0_
                            have HO_5 := n1_
                            have HO262 := n2_
                            have HB := n3_
                            clear n0_ n1_ n2_ n3_
                            clear hb ho42
                            refine hK.out _ _ (HS0_) (fun hHeld => ?_)
                            clear hK K
                            refine norm_ (a' := ?_) ?_ ?_
                            rotate_left
                            · show Act.put _ (some 52) _ = _
                              simp only [Act.put, List.setIfInBounds_toArray, List.set_cons_zero, List.set_cons_succ, i64_w, i32_w]
                              rfl
                            refine one_ (i := 1) (N := some 45) #[true, true, true, false, true, true, true, true, true, false, false, false] rfl rfl (one_of HT_.out (by kernel_rfl)) (by decide) (fun K hK => ?_)
                            refine Kd.R_lit_step (Kd.int .i64) _ 3 ?hg (N := 45) ?hd (xs := ([] : List Int)) (inner := []) (ok := fun _ => True) (okp := fun _ => True) ?hr ?hp (fun _ hk => hk) trivial (Below.refl _ _) (Nat.le_refl _) (by simp) ?_; (case hd => rfl); (case hg => rfl); (case hr => first | (go_simp; done) | (go_simp; rfl)); (case hp => exact (Reps.none _ _))
                            intro v254 w43 ho44 hb hg_ hnew_
                            have HS0_ := (hb.cell (World.block_lt_of_cell? _ _ (hHeld))).trans (hHeld)
                            clear hg_ hnew_
                            (first | rw [← Ny253.out] at ho44 | (simp only [Int.reduceToNat] at ho44; rw [← Ny253.out] at ho44))
                            have n0_ := Aside0.mk (Kd.R_elder' (by (with_reducible repeat (first | apply Kd.R_alloc | apply Kd.R_drewN | apply Kd.R_drew)); exact HO_4.out) (Kd.R_base ho44) hb)
                            have n1_ := Aside0.mk (Kd.R_elder' (by (with_reducible repeat (first | apply Kd.R_alloc | apply Kd.R_drewN | apply Kd.R_drew)); exact HO_5.out) (Kd.R_base ho44) hb)
                            have n2_ := Aside0.mk (Kd.R_elder' (by (with_reducible repeat (first | apply Kd.R_alloc | apply Kd.R_drewN | apply Kd.R_drew)); exact HO262.out) (Kd.R_base ho44) hb)
                            have n3_ := Aside0.mk (Kd.R_lower (Kd.R_new' (Kd.R_new' (Kd.R_new' ho44 (Kd.R_lt (by (with_reducible repeat (first | apply Kd.R_alloc | apply Kd.R_drewN | apply Kd.R_drew)); exact HO_4.out))) (Kd.R_lt (by (with_reducible repeat (first | apply Kd.R_alloc | apply Kd.R_drewN | apply Kd.R_drew)); exact HO_5.out))) (Kd.R_lt (by (with_reducible repeat (first | apply Kd.R_alloc | apply Kd.R_drewN | apply Kd.R_drew)); exact HO262.out))) (below_size (by repeat (first | (with_reducible first | exact HB.out | apply below_alloc | apply pw_below_drewN | apply below_drew1) | exact HB.out))))
                            have n4_ := Aside0.mk (below_step (by repeat (first | (with_reducible first | exact HB.out | apply below_alloc | apply pw_below_drewN | apply below_drew1) | exact HB.out)) hb)
                            clear HO_4
                            clear HO_5
                            clear HO262
                            clear HB
                            have HO_4 := n0_
                            have HO_5 := n1_
                            have HO262 := n2_
                            have HO255 := n3_
                            have HB := n4_
                            clear n0_ n1_ n2_ n3_ n4_
                            clear hb ho44
                            refine hK.out _ _ (HS0_) (fun hHeld => ?_)
                            clear hK K
                            refine norm_ (a' := ?_) ?_ ?_
                            rotate_left
                            · show Act.put _ (some 45) _ = _
                              simp only [Act.put, List.setIfInBounds_toArray, List.set_cons_zero, List.set_cons_succ, i64_w, i32_w]
                              rfl
                            refine one_ (i := 3) (N := some 47) #[true, true, true, true, true, true, true, true, true, false, false, false] rfl rfl (one_of HT_.out (by kernel_rfl)) (by decide) (fun K hK => ?_)
                            refine Kd.R_append_rows_step (Kd.int .i64) (w0 := w) w.heap.size (by rfl) (.tmp 45) (.tmp 46) 22 3 (.int .i64 0) 8 rfl Try.underlying22 info3 rfl (by decide) (by omega) v254 y253 t244 _ _ _ (fun k_ => some k_ ≠ (.slice Ao8 t244.length co8 : Value).ownBlock ∧ some k_ ≠ (.slice (some ad259) t247.length co39 : Value).ownBlock ∧ some k_ ≠ (v261 : Value).ownBlock) (fun _ => False) rfl rfl ?aO ?aR (fun _ _ h => h) (fun _ h => h.elim) ?aF ?aB ?aS ?aL ?_
                            (case aR => repeat (first | exact (Kd.R_reads' HO_4.out).2.2 | (with_reducible refine Kd.C_alloc ?_ _) | (with_reducible refine Kd.C_drewN ?_ _) | (with_reducible refine Kd.C_drew ?_)))
                            (case aB => exact (by repeat (first | (with_reducible first | exact HB.out | apply below_alloc | apply pw_below_drewN | apply below_drew1) | exact HB.out)))
                            (case aF => exact (fun k_ hk => ⟨Kd.fresh' (Kd.R_lt (by (with_reducible repeat (first | apply Kd.R_alloc | apply Kd.R_drewN | apply Kd.R_drew)); exact HO_4.out)) k_ hk, Kd.fresh' (Kd.R_lt (by (with_reducible repeat (first | apply Kd.R_alloc | apply Kd.R_drewN | apply Kd.R_drew)); exact HO_5.out)) k_ hk, Kd.fresh' (Kd.R_lt (by (with_reducible repeat (first | apply Kd.R_alloc | apply Kd.R_drewN | apply Kd.R_drew)); exact HO262.out)) k_ hk⟩))
                            (case aO => exact (by (with_reducible repeat (first | apply Kd.R_alloc | apply Kd.R_drewN | apply Kd.R_drew)); exact Kd.R_mono HO255.out (fun _ hk => ⟨hk.1.1.2, ⟨hk.1.2, hk.2⟩⟩)))
                            (case aS => exact (below_size (by repeat (first | (with_reducible first | exact HB.out | apply below_alloc | apply pw_below_drewN | apply below_drew1) | exact HB.out))))
                            (case aL => have := LMc22.out; omega)
                            intro v257 w45 ho hb hg hat
                            (first | have HS0_ := cell_grown hg (hHeld) (by have h_ := HO_5.out.1 _ rfl; first | (rw [add_block]; first | exact h_ | exact h_.1 | exact h_.2 | exact h_.1.1 | exact h_.1.2 | exact h_.2.1 | exact h_.2.2 | exact h_.1.1.1 | exact h_.1.1.2 | exact h_.1.2.1 | exact h_.1.2.2 | exact h_.2.1.1 | exact h_.2.1.2 | exact h_.2.2.1 | exact h_.2.2.2 | exact h_.1.1.1.1 | exact h_.1.1.1.2 | exact h_.1.1.2.1 | exact h_.1.1.2.2 | exact h_.1.2.1.1 | exact h_.1.2.1.2 | exact h_.1.2.2.1 | exact h_.1.2.2.2 | exact h_.2.1.1.1 | exact h_.2.1.1.2 | exact h_.2.1.2.1 | exact h_.2.1.2.2 | exact h_.2.2.1.1 | exact h_.2.2.1.2 | exact h_.2.2.2.1 | exact h_.2.2.2.2) | (show some (Addr.add _ _).block ≠ _; rw [add_block]; first | exact h_ | exact h_.1 | exact h_.2 | exact h_.1.1 | exact h_.1.2 | exact h_.2.1 | exact h_.2.2 | exact h_.1.1.1 | exact h_.1.1.2 | exact h_.1.2.1 | exact h_.1.2.2 | exact h_.2.1.1 | exact h_.2.1.2 | exact h_.2.2.1 | exact h_.2.2.2 | exact h_.1.1.1.1 | exact h_.1.1.1.2 | exact h_.1.1.2.1 | exact h_.1.1.2.2 | exact h_.1.2.1.1 | exact h_.1.2.1.2 | exact h_.1.2.2.1 | exact h_.1.2.2.2 | exact h_.2.1.1.1 | exact h_.2.1.1.2 | exact h_.2.1.2.1 | exact h_.2.1.2.2 | exact h_.2.2.1.1 | exact h_.2.2.1.2 | exact h_.2.2.2.1 | exact h_.2.2.2.2) | (first | exact h_ | exact h_.1 | exact h_.2 | exact h_.1.1 | exact h_.1.2 | exact h_.2.1 | exact h_.2.2 | exact h_.1.1.1 | exact h_.1.1.2 | exact h_.1.2.1 | exact h_.1.2.2 | exact h_.2.1.1 | exact h_.2.1.2 | exact h_.2.2.1 | exact h_.2.2.2 | exact h_.1.1.1.1 | exact h_.1.1.1.2 | exact h_.1.1.2.1 | exact h_.1.1.2.2 | exact h_.1.2.1.1 | exact h_.1.2.1.2 | exact h_.1.2.2.1 | exact h_.1.2.2.2 | exact h_.2.1.1.1 | exact h_.2.1.1.2 | exact h_.2.1.2.1 | exact h_.2.1.2.2 | exact h_.2.2.1.1 | exact h_.2.2.1.2 | exact h_.2.2.2.1 | exact h_.2.2.2.2)) | have HS0_ := cell_grown hg (cell_unalloc (hHeld) (by have h_ := Kd.R_lt HO_5.out _ rfl; first | (rw [add_block]; exact h_) | (show (Addr.add _ _).block < _; rw [add_block]; exact h_) | exact h_)) (by have h_ := HO_5.out.1 _ rfl; first | (rw [add_block]; first | exact h_ | exact h_.1 | exact h_.2 | exact h_.1.1 | exact h_.1.2 | exact h_.2.1 | exact h_.2.2 | exact h_.1.1.1 | exact h_.1.1.2 | exact h_.1.2.1 | exact h_.1.2.2 | exact h_.2.1.1 | exact h_.2.1.2 | exact h_.2.2.1 | exact h_.2.2.2 | exact h_.1.1.1.1 | exact h_.1.1.1.2 | exact h_.1.1.2.1 | exact h_.1.1.2.2 | exact h_.1.2.1.1 | exact h_.1.2.1.2 | exact h_.1.2.2.1 | exact h_.1.2.2.2 | exact h_.2.1.1.1 | exact h_.2.1.1.2 | exact h_.2.1.2.1 | exact h_.2.1.2.2 | exact h_.2.2.1.1 | exact h_.2.2.1.2 | exact h_.2.2.2.1 | exact h_.2.2.2.2) | (show some (Addr.add _ _).block ≠ _; rw [add_block]; first | exact h_ | exact h_.1 | exact h_.2 | exact h_.1.1 | exact h_.1.2 | exact h_.2.1 | exact h_.2.2 | exact h_.1.1.1 | exact h_.1.1.2 | exact h_.1.2.1 | exact h_.1.2.2 | exact h_.2.1.1 | exact h_.2.1.2 | exact h_.2.2.1 | exact h_.2.2.2 | exact h_.1.1.1.1 | exact h_.1.1.1.2 | exact h_.1.1.2.1 | exact h_.1.1.2.2 | exact h_.1.2.1.1 | exact h_.1.2.1.2 | exact h_.1.2.2.1 | exact h_.1.2.2.2 | exact h_.2.1.1.1 | exact h_.2.1.1.2 | exact h_.2.1.2.1 | exact h_.2.1.2.2 | exact h_.2.2.1.1 | exact h_.2.2.1.2 | exact h_.2.2.2.1 | exact h_.2.2.2.2) | (first | exact h_ | exact h_.1 | exact h_.2 | exact h_.1.1 | exact h_.1.2 | exact h_.2.1 | exact h_.2.2 | exact h_.1.1.1 | exact h_.1.1.2 | exact h_.1.2.1 | exact h_.1.2.2 | exact h_.2.1.1 | exact h_.2.1.2 | exact h_.2.2.1 | exact h_.2.2.2 | exact h_.1.1.1.1 | exact h_.1.1.1.2 | exact h_.1.1.2.1 | exact h_.1.1.2.2 | exact h_.1.2.1.1 | exact h_.1.2.1.2 | exact h_.1.2.2.1 | exact h_.1.2.2.2 | exact h_.2.1.1.1 | exact h_.2.1.1.2 | exact h_.2.1.2.1 | exact h_.2.1.2.2 | exact h_.2.2.1.1 | exact h_.2.2.1.2 | exact h_.2.2.2.1 | exact h_.2.2.2.2)))
                            rw [← Ny256.out] at ho
                            have n0_ := Aside0.mk (Kd.R_after (ok := (fun k_ => some k_ ≠ (.slice (some ad259) t247.length co39 : Value).ownBlock ∧ some k_ ≠ (v261 : Value).ownBlock)) (by (with_reducible repeat (first | apply Kd.R_alloc | apply Kd.R_drewN | apply Kd.R_drew)); exact HO_4.out) hg hat)
                            have n1_ := Aside0.mk (Kd.R_after (ok := (fun k_ => some k_ ≠ (.slice Ao8 t244.length co8 : Value).ownBlock ∧ some k_ ≠ (v261 : Value).ownBlock)) (by (with_reducible repeat (first | apply Kd.R_alloc | apply Kd.R_drewN | apply Kd.R_drew)); exact HO_5.out) hg hat)
                            have n2_ := Aside0.mk (Kd.R_after (ok := (fun k_ => some k_ ≠ (.slice Ao8 t244.length co8 : Value).ownBlock ∧ some k_ ≠ (.slice (some ad259) t247.length co39 : Value).ownBlock)) (by (with_reducible repeat (first | apply Kd.R_alloc | apply Kd.R_drewN | apply Kd.R_drew)); exact Kd.R_mono HO262.out (fun _ hk => ⟨⟨hk.1.1.2, hk.1.2⟩, hk.2⟩)) hg hat)
                            have n3_ := Aside0.mk (hb)
                            have n4_ := Aside0.mk (ho)
                            clear HO_4
                            clear HO_5
                            clear HO262
                            clear HB
                            clear HO255
                            have HO_4 := n0_
                            have HO_5 := n1_
                            have HO262 := n2_
                            have HB := n3_
                            have HO258 := n4_
                            clear n0_ n1_ n2_ n3_ n4_
                            clear ho hb hg hat
                            refine hK.out _ _ (HS0_) (fun hHeld => ?_)
                            clear hK K
                            refine norm_ (a' := ?_) ?_ ?_
                            rotate_left
                            · show Act.put _ (some 47) _ = _
                              simp only [Act.put, List.setIfInBounds_toArray, List.set_cons_zero, List.set_cons_succ, i64_w, i32_w]
                              rfl
                            exact norm_ (by simp only [putAll, Act.put, List.setIfInBounds_toArray, List.set_cons_zero, List.set_cons_succ]) (hCont (v254, v257, v261) _ ⟨hHeld, (by (with_reducible repeat (first | apply Kd.R_alloc | apply Kd.R_drewN | apply Kd.R_drew)); exact Kd.R_mono HO258.out (fun _ hk => ⟨hk.2.2, ⟨hk.1, hk.2.1⟩⟩)), (by (with_reducible repeat (first | apply Kd.R_alloc | apply Kd.R_drewN | apply Kd.R_drew)); exact Kd.R_mono HO262.out (fun _ hk => ⟨hk.2, ⟨hk.1.1, hk.1.2⟩⟩)), (by (with_reducible repeat (first | apply Kd.R_alloc | apply Kd.R_drewN | apply Kd.R_drew)); exact Kd.R_mono HO_4.out (fun _ hk => ⟨hk.2, ⟨hk.1.2, hk.1.1⟩⟩)), (by (with_reducible repeat (first | apply Kd.R_alloc | apply Kd.R_drewN | apply Kd.R_drew)); exact Kd.R_mono HO_5.out (fun _ hk => ⟨hk.2, ⟨hk.1.2, hk.1.1⟩⟩)), (by repeat (first | (with_reducible first | exact HB.out | apply below_alloc | apply pw_below_drewN | apply below_drew1) | exact HB.out))⟩)
                        rintro ⟨v254, v257, v261⟩ w46 ⟨hS_, h0_, h1_, h2_, h3_, h4_⟩
                        have n0_ : Aside0 (Kd.R (Kd.int .i64) 3 w46 w.heap.size (fun k_ => some k_ ≠ (v261 : Value).ownBlock ∧ some k_ ≠ (.slice Ao8 t244.length co8 : Value).ownBlock ∧ some k_ ≠ (.slice (some ad259) t247.length co39 : Value).ownBlock) v257 y256) := ⟨h0_⟩
                        have n1_ : Aside0 (Kd.R (Kd.int .i64) 3 w46 w.heap.size (fun k_ => some k_ ≠ (v257 : Value).ownBlock ∧ some k_ ≠ (.slice Ao8 t244.length co8 : Value).ownBlock ∧ some k_ ≠ (.slice (some ad259) t247.length co39 : Value).ownBlock) v261 y260) := ⟨h1_⟩
                        have n2_ : Aside0 (Kd.R (Kd.int .i64) 3 w46 w.heap.size (fun k_ => some k_ ≠ (v257 : Value).ownBlock ∧ some k_ ≠ (v261 : Value).ownBlock ∧ some k_ ≠ (.slice (some ad259) t247.length co39 : Value).ownBlock) (.slice Ao8 t244.length co8) t244) := ⟨h2_⟩
                        have n3_ : Aside0 (Kd.R (Kd.int .i64) 3 w46 w.heap.size (fun k_ => some k_ ≠ (v257 : Value).ownBlock ∧ some k_ ≠ (v261 : Value).ownBlock ∧ some k_ ≠ (.slice Ao8 t244.length co8 : Value).ownBlock) (.slice (some ad259) t247.length co39) t247) := ⟨h3_⟩
                        have n4_ : Aside0 (Below w.heap.size w w46) := ⟨h4_⟩
                        clear HO_4
                        clear HO_5
                        clear HB
                        clear h0_ h1_ h2_ h3_ h4_
                        have HO258 := n0_
                        have HO262 := n1_
                        have HO_4 := n2_
                        have HO_5 := n3_
                        have HB := n4_
                        clear n0_ n1_ n2_ n3_ n4_
                        have hHeld : w46.cell? (ad259.add (x6_2).toNat) = some (.int .i64 (rd t247 x6_2)) := hS_
                        obtain ⟨Ao48, co48, eo48⟩ := Kd.R_slice HO262.out
                        (first | subst eo48 | (injection eo48 with f1_ f2_ f3_; have f4_ := f1_.symm; have f5_ := f3_.symm; clear f1_ f2_ f3_; subst f4_; subst f5_))
                        refine norm_ (a' := ?_) ?_ ?_
                        rotate_left
                        · simp only [putAll, Act.put, List.setIfInBounds_toArray, List.set_cons_zero, List.set_cons_succ]
                          rfl
                        refine one_ (i := 9) (N := some 53) #[true, true, true, true, true, true, true, true, true, true, false, false] rfl rfl (one_of HT_.out (by kernel_rfl)) (by decide) (fun K hK => ?_)
                        refine Kd.R_append_rows_step (Kd.int .i64) (w0 := w) w.heap.size (by rfl) (.tmp 47) (.tmp 52) 22 3 (.int .i64 0) 8 rfl Try.underlying22 info3 rfl (by decide) (by omega) v257 y256 y260 _ _ _ (fun k_ => some k_ ≠ (.slice Ao8 t244.length co8 : Value).ownBlock ∧ some k_ ≠ (.slice (some ad259) t247.length co39 : Value).ownBlock ∧ some k_ ≠ (.slice Ao48 y260.length co48 : Value).ownBlock) (fun _ => False) rfl rfl ?aO ?aR (fun _ _ h => h) (fun _ h => h.elim) ?aF ?aB ?aS ?aL ?_
                        (case aR => repeat (first | exact (Kd.R_reads' HO262.out).2.2 | (with_reducible refine Kd.C_alloc ?_ _) | (with_reducible refine Kd.C_drewN ?_ _) | (with_reducible refine Kd.C_drew ?_)))
                        (case aB => exact (by repeat (first | (with_reducible first | exact HB.out | apply below_alloc | apply pw_below_drewN | apply below_drew1) | exact HB.out)))
                        (case aF => exact (fun k_ hk => ⟨Kd.fresh' (Kd.R_lt (by (with_reducible repeat (first | apply Kd.R_alloc | apply Kd.R_drewN | apply Kd.R_drew)); exact HO_4.out)) k_ hk, Kd.fresh' (Kd.R_lt (by (with_reducible repeat (first | apply Kd.R_alloc | apply Kd.R_drewN | apply Kd.R_drew)); exact HO_5.out)) k_ hk, Kd.fresh' (Kd.R_lt (by (with_reducible repeat (first | apply Kd.R_alloc | apply Kd.R_drewN | apply Kd.R_drew)); exact HO262.out)) k_ hk⟩))
                        (case aO => exact (by (with_reducible repeat (first | apply Kd.R_alloc | apply Kd.R_drewN | apply Kd.R_drew)); exact Kd.R_mono HO258.out (fun _ hk => ⟨hk.2.1, ⟨hk.2.2, hk.1⟩⟩)))
                        (case aS => exact (below_size (by repeat (first | (with_reducible first | exact HB.out | apply below_alloc | apply pw_below_drewN | apply below_drew1) | exact HB.out))))
                        (case aL => have := LMc24.out; omega)
                        intro v264 w47 ho hb hg hat
                        (first | have HS0_ := cell_grown hg (hHeld) (by have h_ := HO_5.out.1 _ rfl; first | (rw [add_block]; first | exact h_ | exact h_.1 | exact h_.2 | exact h_.1.1 | exact h_.1.2 | exact h_.2.1 | exact h_.2.2 | exact h_.1.1.1 | exact h_.1.1.2 | exact h_.1.2.1 | exact h_.1.2.2 | exact h_.2.1.1 | exact h_.2.1.2 | exact h_.2.2.1 | exact h_.2.2.2 | exact h_.1.1.1.1 | exact h_.1.1.1.2 | exact h_.1.1.2.1 | exact h_.1.1.2.2 | exact h_.1.2.1.1 | exact h_.1.2.1.2 | exact h_.1.2.2.1 | exact h_.1.2.2.2 | exact h_.2.1.1.1 | exact h_.2.1.1.2 | exact h_.2.1.2.1 | exact h_.2.1.2.2 | exact h_.2.2.1.1 | exact h_.2.2.1.2 | exact h_.2.2.2.1 | exact h_.2.2.2.2) | (show some (Addr.add _ _).block ≠ _; rw [add_block]; first | exact h_ | exact h_.1 | exact h_.2 | exact h_.1.1 | exact h_.1.2 | exact h_.2.1 | exact h_.2.2 | exact h_.1.1.1 | exact h_.1.1.2 | exact h_.1.2.1 | exact h_.1.2.2 | exact h_.2.1.1 | exact h_.2.1.2 | exact h_.2.2.1 | exact h_.2.2.2 | exact h_.1.1.1.1 | exact h_.1.1.1.2 | exact h_.1.1.2.1 | exact h_.1.1.2.2 | exact h_.1.2.1.1 | exact h_.1.2.1.2 | exact h_.1.2.2.1 | exact h_.1.2.2.2 | exact h_.2.1.1.1 | exact h_.2.1.1.2 | exact h_.2.1.2.1 | exact h_.2.1.2.2 | exact h_.2.2.1.1 | exact h_.2.2.1.2 | exact h_.2.2.2.1 | exact h_.2.2.2.2) | (first | exact h_ | exact h_.1 | exact h_.2 | exact h_.1.1 | exact h_.1.2 | exact h_.2.1 | exact h_.2.2 | exact h_.1.1.1 | exact h_.1.1.2 | exact h_.1.2.1 | exact h_.1.2.2 | exact h_.2.1.1 | exact h_.2.1.2 | exact h_.2.2.1 | exact h_.2.2.2 | exact h_.1.1.1.1 | exact h_.1.1.1.2 | exact h_.1.1.2.1 | exact h_.1.1.2.2 | exact h_.1.2.1.1 | exact h_.1.2.1.2 | exact h_.1.2.2.1 | exact h_.1.2.2.2 | exact h_.2.1.1.1 | exact h_.2.1.1.2 | exact h_.2.1.2.1 | exact h_.2.1.2.2 | exact h_.2.2.1.1 | exact h_.2.2.1.2 | exact h_.2.2.2.1 | exact h_.2.2.2.2)) | have HS0_ := cell_grown hg (cell_unalloc (hHeld) (by have h_ := Kd.R_lt HO_5.out _ rfl; first | (rw [add_block]; exact h_) | (show (Addr.add _ _).block < _; rw [add_block]; exact h_) | exact h_)) (by have h_ := HO_5.out.1 _ rfl; first | (rw [add_block]; first | exact h_ | exact h_.1 | exact h_.2 | exact h_.1.1 | exact h_.1.2 | exact h_.2.1 | exact h_.2.2 | exact h_.1.1.1 | exact h_.1.1.2 | exact h_.1.2.1 | exact h_.1.2.2 | exact h_.2.1.1 | exact h_.2.1.2 | exact h_.2.2.1 | exact h_.2.2.2 | exact h_.1.1.1.1 | exact h_.1.1.1.2 | exact h_.1.1.2.1 | exact h_.1.1.2.2 | exact h_.1.2.1.1 | exact h_.1.2.1.2 | exact h_.1.2.2.1 | exact h_.1.2.2.2 | exact h_.2.1.1.1 | exact h_.2.1.1.2 | exact h_.2.1.2.1 | exact h_.2.1.2.2 | exact h_.2.2.1.1 | exact h_.2.2.1.2 | exact h_.2.2.2.1 | exact h_.2.2.2.2) | (show some (Addr.add _ _).block ≠ _; rw [add_block]; first | exact h_ | exact h_.1 | exact h_.2 | exact h_.1.1 | exact h_.1.2 | exact h_.2.1 | exact h_.2.2 | exact h_.1.1.1 | exact h_.1.1.2 | exact h_.1.2.1 | exact h_.1.2.2 | exact h_.2.1.1 | exact h_.2.1.2 | exact h_.2.2.1 | exact h_.2.2.2 | exact h_.1.1.1.1 | exact h_.1.1.1.2 | exact h_.1.1.2.1 | exact h_.1.1.2.2 | exact h_.1.2.1.1 | exact h_.1.2.1.2 | exact h_.1.2.2.1 | exact h_.1.2.2.2 | exact h_.2.1.1.1 | exact h_.2.1.1.2 | exact h_.2.1.2.1 | exact h_.2.1.2.2 | exact h_.2.2.1.1 | exact h_.2.2.1.2 | exact h_.2.2.2.1 | exact h_.2.2.2.2) | (first | exact h_ | exact h_.1 | exact h_.2 | exact h_.1.1 | exact h_.1.2 | exact h_.2.1 | exact h_.2.2 | exact h_.1.1.1 | exact h_.1.1.2 | exact h_.1.2.1 | exact h_.1.2.2 | exact h_.2.1.1 | exact h_.2.1.2 | exact h_.2.2.1 | exact h_.2.2.2 | exact h_.1.1.1.1 | exact h_.1.1.1.2 | exact h_.1.1.2.1 | exact h_.1.1.2.2 | exact h_.1.2.1.1 | exact h_.1.2.1.2 | exact h_.1.2.2.1 | exact h_.1.2.2.2 | exact h_.2.1.1.1 | exact h_.2.1.1.2 | exact h_.2.1.2.1 | exact h_.2.1.2.2 | exact h_.2.2.1.1 | exact h_.2.2.1.2 | exact h_.2.2.2.1 | exact h_.2.2.2.2)))
                        rw [← Ny263.out] at ho
                        have n0_ := Aside0.mk (Kd.R_after (ok := (fun k_ => some k_ ≠ (.slice (some ad259) t247.length co39 : Value).ownBlock ∧ some k_ ≠ (.slice Ao48 y260.length co48 : Value).ownBlock)) (by (with_reducible repeat (first | apply Kd.R_alloc | apply Kd.R_drewN | apply Kd.R_drew)); exact Kd.R_mono HO_4.out (fun _ hk => ⟨⟨hk.2.2, hk.2.1⟩, hk.1⟩)) hg hat)
                        have n1_ := Aside0.mk (Kd.R_after (ok := (fun k_ => some k_ ≠ (.slice Ao8 t244.length co8 : Value).ownBlock ∧ some k_ ≠ (.slice Ao48 y260.length co48 : Value).ownBlock)) (by (with_reducible repeat (first | apply Kd.R_alloc | apply Kd.R_drewN | apply Kd.R_drew)); exact Kd.R_mono HO_5.out (fun _ hk => ⟨⟨hk.2.2, hk.2.1⟩, hk.1⟩)) hg hat)
                        have n2_ := Aside0.mk (Kd.R_after (ok := (fun k_ => some k_ ≠ (.slice Ao8 t244.length co8 : Value).ownBlock ∧ some k_ ≠ (.slice (some ad259) t247.length co39 : Value).ownBlock)) (by (with_reducible repeat (first | apply Kd.R_alloc | apply Kd.R_drewN | apply Kd.R_drew)); exact Kd.R_mono HO262.out (fun _ hk => ⟨⟨hk.2.1, hk.2.2⟩, hk.1⟩)) hg hat)
                        have n3_ := Aside0.mk (hb)
                        have n4_ := Aside0.mk (ho)
                        clear HO_4
                        clear HO_5
                        clear HO262
                        clear HB
                        clear HO258
                        have HO_4 := n0_
                        have HO_5 := n1_
                        have HO262 := n2_
                        have HB := n3_
                        have HO265 := n4_
                        clear n0_ n1_ n2_ n3_ n4_
                        clear ho hb hg hat
                        obtain ⟨Ao49, co49, eo49⟩ := Kd.R_slice HO265.out
                        (first | subst eo49 | (injection eo49 with f1_ f2_ f3_; have f4_ := f1_.symm; have f5_ := f3_.symm; clear f1_ f2_ f3_; subst f4_; subst f5_))
                        refine hK.out _ _ (HS0_) (fun hHeld => ?_)
                        clear hK K
                        refine norm_ (a' := ?_) ?_ ?_
                        rotate_left
                        · show Act.put _ (some 53) _ = _
                          simp only [Act.put, List.setIfInBounds_toArray, List.set_cons_zero, List.set_cons_succ, i64_w, i32_w]
                          rfl
                        refine one_ (i := 10) (N := some 54) #[true, true, true, true, true, true, true, true, true, true, true, false] rfl rfl (one_of HT_.out (by kernel_rfl)) (by decide) (fun K hK => ?_)
                        refine goes_ Try.func34 (by kernel_rfl) rfl #[.int .i64 t243, .slice Ao49 y263.length co49] (by rfl) rfl rfl (by (try simp only [List.map_toArray, List.map_cons, List.map_nil]); first | done | rfl | (simp only [List.length_drop, List.length_take]; rfl)) ?_
                        with_reducible refine (impl_IsCalls.calls k2 t243 _ _ y263 false _ ?side1 ?side2 A25.out).mono ?_
                        (case side1 => repeat (first | exact (Kd.R_reads' HO265.out).2.2 | (with_reducible refine Kd.C_alloc ?_ _) | (with_reducible refine Kd.C_drewN ?_ _) | (with_reducible refine Kd.C_drew ?_)))
                        (case side2 => exact (Kd.R_reads' HO265.out).2.1)
                        rintro e w50 ⟨rfl, hb⟩
                        have HS0_ := (hb.cell (World.block_lt_of_cell? _ _ (hHeld))).trans (hHeld)
                        refine ⟨_, rfl, ?_⟩
                        have n0_ := Aside0.mk (Kd.R_below (by (with_reducible repeat (first | apply Kd.R_alloc | apply Kd.R_drewN | apply Kd.R_drew)); exact HO_4.out) hb)
                        have n1_ := Aside0.mk (Kd.R_below (by (with_reducible repeat (first | apply Kd.R_alloc | apply Kd.R_drewN | apply Kd.R_drew)); exact HO_5.out) hb)
                        have n2_ := Aside0.mk (Kd.R_below (by (with_reducible repeat (first | apply Kd.R_alloc | apply Kd.R_drewN | apply Kd.R_drew)); exact HO262.out) hb)
                        have n3_ := Aside0.mk (Kd.R_below (by (with_reducible repeat (first | apply Kd.R_alloc | apply Kd.R_drewN | apply Kd.R_drew)); exact HO265.out) hb)
                        have n4_ := Aside0.mk (below_step (by repeat (first | (with_reducible first | exact HB.out | apply below_alloc | apply pw_below_drewN | apply below_drew1) | exact HB.out)) hb)
                        clear HO_4
                        clear HO_5
                        clear HO262
                        clear HO265
                        clear HB
                        have HO_4 := n0_
                        have HO_5 := n1_
                        have HO262 := n2_
                        have HO265 := n3_
                        have HB := n4_
                        clear n0_ n1_ n2_ n3_ n4_
                        (try clear hb)
                        (try clear hb2)
                        (try clear hk)
                        (try clear hi)
                        refine hK.out _ _ (HS0_) (fun hHeld => ?_)
                        clear hK K
                        refine norm_ (a' := ?_) ?_ ?_
                        rotate_left
                        · show Act.put _ (some 54) _ = _
                          simp only [Act.put, List.setIfInBounds_toArray, List.set_cons_zero, List.set_cons_succ, i64_w, i32_w]
                          rfl
                        refine pure_ (i := 11) (N := some 55) (v := ?_) (a' := ?_) #[true, true, true, true, true, true, true, true, true, true, true, true] rfl rfl (any_of HT_.out (by kernel_rfl)) (fun _ _ _ h => h) (Or.inl ⟨by rfl, ?_⟩) ?_ ?_
                        rotate_left
                        · intro w'
                          go_simp
                          with_reducible rfl
                        rotate_left
                        · simp only [Act.put, List.setIfInBounds_toArray, List.set_cons_zero, List.set_cons_succ, i64_w, i32_w]
                          rfl
                        refine done_ (done_of HT_.out (by kernel_rfl)) ?_
                        try go_wp2
                        go_ret
                        exact ⟨by first | rfl | (simp [errW_none, errW_some] <;> rfl) | (simp [*, errW_none, errW_some] <;> rfl), by repeat (first | (with_reducible first | exact HB.out | apply below_alloc | apply pw_below_drewN | apply below_drew1) | exact HB.out)⟩
                    · rw [if_neg c24] at H
                      exact absurd H (by simp)
                  · rw [if_neg c23] at H
                    exact absurd H (by simp)
                · rw [if_neg c22] at H
                  exact absurd H (by simp)
              · rw [if_neg c21] at H
                have c21b0 : decide (x6_2 < (t247.length : Int)) = false := decide_eq_false c21
                clear c21
                replace H := Option.bind_eq_some_iff.mp H
                obtain ⟨t267, A510, H⟩ := H
                replace H : (if t267 ≥ 0 then (laws_FnCalls.l1 k2 l0 t243 t244 t267 (-1) 0) else ((spec_DrawHighBid.f k2 l0).bind fun t275 => ((impl_HighBid.f k2 t275).bind fun t278 => (some (decide (t278 ≥ 0)))))) = some r := H
                have A51 := Aside0.mk A510
                clear A510
                by_cases c52 : t267 ≥ 0
                · rw [if_pos c52] at H
                  have c52b0 : decide (0 ≤ t267) = true := decide_eq_true c52
                  clear c52
                  have H' := Aside0.mk H
                  clear H
                  obtain ⟨Ao53, co53, eo53⟩ := Kd.R_slice HO_5.out
                  subst eo53
                  go_wp2_with (first | ((with_reducible refine gate_callee (f := 36) rfl ?_); refine goesL_ (some 58) rfl rfl Try.func36 (by kernel_rfl) rfl #[.int .i64 t243, .slice Ao8 t244.length co8] rfl (by (try simp only [List.map_toArray, List.map_cons, List.map_nil]); first | done | rfl | (simp only [List.length_drop, List.length_take]; rfl)) ?_; (with_reducible refine (impl_Declarer.calls k2 t243 _ _ t244 t267 _ ?side1 ?side2 A51.out).mono ?_); (case side1 => repeat (first | exact (Kd.R_reads' HO_4.out).2.2 | (with_reducible refine Kd.C_alloc ?_ _) | (with_reducible refine Kd.C_drewN ?_ _) | (with_reducible refine Kd.C_drew ?_))); (case side2 => exact (Kd.R_reads' HO_4.out).2.1); rintro e w54 ⟨rfl, hb⟩; refine ⟨_, rfl, ?_⟩; have n0_ := Aside0.mk (Kd.R_below (by (with_reducible repeat (first | apply Kd.R_alloc | apply Kd.R_drewN | apply Kd.R_drew)); exact HO_4.out) hb); have n1_ := Aside0.mk (Kd.R_below (by (with_reducible repeat (first | apply Kd.R_alloc | apply Kd.R_drewN | apply Kd.R_drew)); exact HO_5.out) hb); have n2_ := Aside0.mk (below_step (by repeat (first | (with_reducible first | exact HB.out | apply below_alloc | apply pw_below_drewN | apply below_drew1) | exact HB.out)) hb); clear HO_4; clear HO_5; clear HB; have HO_4 := n0_; have HO_5 := n1_; have HB := n2_; clear n0_ n1_ n2_; (try clear hb); (try clear hb2); (try clear hk); (try clear hi)))
                  go_loopg [8, 9] k2 (fun kq v8 v9 w' => ∃ (x8_3 : Int) (x9_3 : Int), v8 = .int .i64 x8_3 ∧ v9 = .int .i64 x9_3 ∧ Aside0 (laws_FnCalls.l1 kq l0 t243 t244 t267 x8_3 x9_3 = some r) ∧ Aside0 (kq ≤ k2) ∧ Aside0 (Kd.R (Kd.int .i64) 3 w' w.heap.size (fun _ => True) (.slice Ao8 t244.length co8) t244) ∧ Aside0 (Below w.heap.size w w'))
                  case atStart => exact ⟨((-1)), (0), (by first | rfl | (simp; done) | (simp [*]; done)), (by first | rfl | (simp; done) | (simp [*]; done)), H', ⟨Nat.le_refl _⟩, ⟨by (with_reducible repeat (first | apply Kd.R_alloc | apply Kd.R_drewN | apply Kd.R_drew)); exact Kd.R_mono HO_4.out (fun _ hk => trivial)⟩, ⟨by repeat (first | (with_reducible first | exact HB.out | apply below_alloc | apply pw_below_drewN | apply below_drew1) | exact HB.out)⟩⟩
                  case round =>
                    clear H'
                    try clear c2
                    try clear p2
                    try clear q2
                    try clear hx2
                    try clear c3
                    try clear c5
                    try clear p6
                    try clear c21
                    try clear c21b0
                    try clear c22
                    try clear c23
                    try clear c24
                    try clear p25
                    try clear q25
                    try clear hx25
                    try clear c26
                    try clear c34
                    try clear c36
                    try clear c52
                    try clear c52b0
                    try clear hx259_0
                    try clear p259
                    try clear q259
                    obtain ⟨x8_3, x9_3, rfl, rfl, HA, HK3, HO_4, HB⟩ := hrel
                    cases gk with
                    | zero => exact absurd HA.out (by simp [laws_FnCalls.l1])
                    | succ k3 =>
                      have H := HA.out
                      clear HA
                      simp only [laws_FnCalls.l1] at H
                      by_cases c55 : x9_3 < (t244.length : Int)
                      · rw [if_pos c55] at H
                        have c55b0 : decide (x9_3 < (t244.length : Int)) = true := decide_eq_true c55
                        clear c55
                        by_cases c56 : 0 ≤ x9_3
                        · rw [if_pos c56] at H
                          have c56b0 : decide (0 ≤ x9_3) = true := decide_eq_true c56
                          clear c56
                          replace H := Option.bind_eq_some_iff.mp H
                          obtain ⟨t269, A570, H⟩ := H
                          replace H : (if (rd t244 x9_3) = t269 then (laws_FnCalls.l1 k3 l0 t243 t244 t267 x9_3 (wrap64 (x9_3 + 1))) else (laws_FnCalls.l1 k3 l0 t243 t244 t267 x8_3 (wrap64 (x9_3 + 1)))) = some r := H
                          have A57 := Aside0.mk A570
                          clear A570
                          by_cases c58 : (rd t244 x9_3) = t269
                          · rw [if_pos c58] at H
                            have c58b0 : ((rd t244 x9_3) == t269) = true := beq_iff_eq.mpr c58
                            have c58b1 : ((rd t244 x9_3) != t269) = false := bne_eq_false_iff_eq.mpr c58
                            clear c58
                            have H' := Aside0.mk H
                            clear H
                            try go_wp2
                            have n0_ := Aside0.mk (Kd.R_drew HO_4.out)
                            have n1_ := Aside0.mk (below_drew1 HB.out)
                            clear HO_4
                            clear HB
                            have HO_4 := n0_
                            have HB := n1_
                            clear n0_ n1_
                            have p268 : 0 ≤ (x9_3 : Int) := of_decide_eq_true (by first | (with_reducible assumption) | assumption)
                            have q268 : x9_3 < (t244.length : Int) := of_decide_eq_true (by first | (with_reducible assumption) | assumption)
                            obtain ⟨ad268, e268, hx268_0⟩ := Kd.at_int (Kd.R_reads' HO_4.out).2.2 x9_3 p268 q268
                            cases e268
                            replace p268 := eq_true p268
                            replace q268 := eq_true q268
                            refine start_ (n := 7) (S := fun w' => w'.cell? (ad268.add (x9_3).toNat) = some (.int .i64 (rd t244 x9_3))) (ds := []) #[false, false, false, false, false, false, false] (by kernel_rfl) rfl rfl (hx268_0) (fun hHeld => ?_)
                            generalize wr.drew = w59 at HO_4 HB hx268_0 hHeld ⊢
                            refine pure_ (i := 0) (N := some 67) (v := ?_) (a' := ?_) #[true, false, false, false, false, false, false] rfl rfl (by kernel_rfl) (fun _ _ _ h => h) (Or.inl ⟨by rfl, ?_⟩) ?_ ?_
                            rotate_left
                            · intro w'
                              go_simp
                              with_reducible rfl
                            rotate_left
                            · simp only [Act.put, List.setIfInBounds_toArray, List.set_cons_zero, List.set_cons_succ, i64_w, i32_w]
                              rfl
                            refine pure_ (i := 1) (N := some 68) (v := ?_) (a' := ?_) #[true, true, false, false, false, false, false] rfl rfl (by kernel_rfl) (fun _ _ _ h => h) (Or.inl ⟨by rfl, ?_⟩) ?_ ?_
                            rotate_left
                            · intro w'
                              go_simp
                              with_reducible rfl
                            rotate_left
                            · simp only [Act.put, List.setIfInBounds_toArray, List.set_cons_zero, List.set_cons_succ, i64_w, i32_w]
                              rfl
                            refine pure_ (i := 2) (N := some 69) (v := ?_) (a' := ?_) #[true, true, true, false, false, false, false] rfl rfl (by kernel_rfl) (fun _ _ _ h => h) (Or.inl ⟨by rfl, ?_⟩) ?_ ?_
                            rotate_left
                            · intro w'
                              go_simp
                              with_reducible rfl
                            rotate_left
                            · simp only [Act.put, List.setIfInBounds_toArray, List.set_cons_zero, List.set_cons_succ, i64_w, i32_w]
                              rfl
                            refine pure_ (i := 4) (N := some 71) (v := ?_) (a' := ?_) #[true, true, true, false, true, false, false] rfl rfl (by kernel_rfl) (fun _ _ _ h => h) (Or.inl ⟨by rfl, ?_⟩) ?_ ?_
                            rotate_left
                            · intro w'
                              go_simp
                              with_reducible rfl
                            rotate_left
                            · simp only [Act.put, List.setIfInBounds_toArray, List.set_cons_zero, List.set_cons_succ, i64_w, i32_w]
                              rfl
                            refine take_ (i := 3) (N := some 70) (v := ?_) (a' := ?_) #[true, true, true, true, true, false, false] rfl rfl (by kernel_rfl) (fun _ _ _ h => h) (Or.inl ⟨by rfl, ?_⟩) hHeld ?_ ?_
                            rotate_left
                            · intro w' s0
                              go_simp
                              with_reducible rfl
                            rotate_left
                            · simp only [Act.put, List.setIfInBounds_toArray, List.set_cons_zero, List.set_cons_succ, i64_w, i32_w]
                              rfl
                            refine one_ (i := 5) (N := some 72) #[true, true, true, true, true, true, false] rfl rfl (by kernel_rfl) (by decide) (fun K hK => ?_)
                            refine goes_ Try.func37 (by kernel_rfl) rfl #[.slice (some ad268) t244.length co8] (by rfl) rfl rfl (by (try simp only [List.map_toArray, List.map_cons, List.map_nil]); first | done | rfl | (simp only [List.length_drop, List.length_take]; rfl)) ?_
                            with_reducible refine (impl_HighBid.calls k3 _ _ t244 t269 _ ?side1 ?side2 A57.out).mono ?_
                            (case side1 => repeat (first | exact (Kd.R_reads' HO_4.out).2.2 | (with_reducible refine Kd.C_alloc ?_ _) | (with_reducible refine Kd.C_drewN ?_ _) | (with_reducible refine Kd.C_drew ?_)))
                            (case side2 => exact (Kd.R_reads' HO_4.out).2.1)
                            rintro e w60 ⟨rfl, hb⟩
                            have HS0_ := (hb.cell (World.block_lt_of_cell? _ _ (hHeld))).trans (hHeld)
                            refine ⟨_, rfl, ?_⟩
                            have n0_ := Aside0.mk (Kd.R_below (by (with_reducible repeat (first | apply Kd.R_alloc | apply Kd.R_drewN | apply Kd.R_drew)); exact HO_4.out) hb)
                            have n1_ := Aside0.mk (below_step (by repeat (first | (with_reducible first | exact HB.out | apply below_alloc | apply pw_below_drewN | apply below_drew1) | exact HB.out)) hb)
                            clear HO_4
                            clear HB
                            have HO_4 := n0_
                            have HB := n1_
                            clear n0_ n1_
                            (try clear hb)
                            (try clear hb2)
                            (try clear hk)
                            (try clear hi)
                            refine hK.out _ _ (HS0_) (fun hHeld => ?_)
                            clear hK K
                            refine norm_ (a' := ?_) ?_ ?_
                            rotate_left
                            · show Act.put _ (some 72) _ = _
                              simp only [Act.put, List.setIfInBounds_toArray, List.set_cons_zero, List.set_cons_succ, i64_w, i32_w]
                              rfl
                            refine pure_ (i := 6) (N := some 73) (v := ?_) (a' := ?_) #[true, true, true, true, true, true, true] rfl rfl (by kernel_rfl) (fun _ _ _ h => h) (Or.inl ⟨by rfl, ?_⟩) ?_ ?_
                            rotate_left
                            · intro w'
                              go_simp
                              with_reducible rfl
                            rotate_left
                            · simp only [Act.put, List.setIfInBounds_toArray, List.set_cons_zero, List.set_cons_succ, i64_w, i32_w]
                              rfl
                            refine done_ (by kernel_rfl) ?_
                            try go_wp2
                            go_roundg k3
                            case measure => have := HJ5.out; have := HK2.out; have := HK3.out; omega
                            case rel => exact ⟨(x9_3), (wrap64 (x9_3 + 1)), (by first | rfl | (simp; done) | (simp [*]; done)), (by first | rfl | (simp; done) | (simp [*]; done)), H', ⟨by have := HJ5.out; have := HK2.out; have := HK3.out; omega⟩, ⟨by (with_reducible repeat (first | apply Kd.R_alloc | apply Kd.R_drewN | apply Kd.R_drew)); exact HO_4.out⟩, ⟨by repeat (first | (with_reducible first | exact HB.out | apply below_alloc | apply pw_below_drewN | apply below_drew1) | exact HB.out)⟩⟩
                          · rw [if_neg c58] at H
                            have c58b0 : ((rd t244 x9_3) == t269) = false := beq_eq_false_iff_ne.mpr c58
                            have c58b1 : ((rd t244 x9_3) != t269) = true := bne_iff_ne.mpr c58
                            have H' := Aside0.mk H
                            clear H
                            try go_wp2
                            have n0_ := Aside0.mk (Kd.R_drew HO_4.out)
                            have n1_ := Aside0.mk (below_drew1 HB.out)
                            clear HO_4
                            clear HB
                            have HO_4 := n0_
                            have HB := n1_
                            clear n0_ n1_
                            have p268 : 0 ≤ (x9_3 : Int) := of_decide_eq_true (by first | (with_reducible assumption) | assumption)
                            have q268 : x9_3 < (t244.length : Int) := of_decide_eq_true (by first | (with_reducible assumption) | assumption)
                            obtain ⟨ad268, e268, hx268_0⟩ := Kd.at_int (Kd.R_reads' HO_4.out).2.2 x9_3 p268 q268
                            cases e268
                            replace p268 := eq_true p268
                            replace q268 := eq_true q268
                            refine start_ (n := 7) (S := fun w' => w'.cell? (ad268.add (x9_3).toNat) = some (.int .i64 (rd t244 x9_3))) (ds := []) #[false, false, false, false, false, false, false] (by kernel_rfl) rfl rfl (hx268_0) (fun hHeld => ?_)
                            generalize wr.drew = w61 at HO_4 HB hx268_0 hHeld ⊢
                            refine pure_ (i := 0) (N := some 67) (v := ?_) (a' := ?_) #[true, false, false, false, false, false, false] rfl rfl (by kernel_rfl) (fun _ _ _ h => h) (Or.inl ⟨by rfl, ?_⟩) ?_ ?_
                            rotate_left
                            · intro w'
                              go_simp
                              with_reducible rfl
                            rotate_left
                            · simp only [Act.put, List.setIfInBounds_toArray, List.set_cons_zero, List.set_cons_succ, i64_w, i32_w]
                              rfl
                            refine pure_ (i := 1) (N := some 68) (v := ?_) (a' := ?_) #[true, true, false, false, false, false, false] rfl rfl (by kernel_rfl) (fun _ _ _ h => h) (Or.inl ⟨by rfl, ?_⟩) ?_ ?_
                            rotate_left
                            · intro w'
                              go_simp
                              with_reducible rfl
                            rotate_left
                            · simp only [Act.put, List.setIfInBounds_toArray, List.set_cons_zero, List.set_cons_succ, i64_w, i32_w]
                              rfl
                            refine pure_ (i := 2) (N := some 69) (v := ?_) (a' := ?_) #[true, true, true, false, false, false, false] rfl rfl (by kernel_rfl) (fun _ _ _ h => h) (Or.inl ⟨by rfl, ?_⟩) ?_ ?_
                            rotate_left
                            · intro w'
                              go_simp
                              with_reducible rfl
                            rotate_left
                            · simp only [Act.put, List.setIfInBounds_toArray, List.set_cons_zero, List.set_cons_succ, i64_w, i32_w]
                              rfl
                            refine pure_ (i := 4) (N := some 71) (v := ?_) (a' := ?_) #[true, true, true, false, true, false, false] rfl rfl (by kernel_rfl) (fun _ _ _ h => h) (Or.inl ⟨by rfl, ?_⟩) ?_ ?_
                            rotate_left
                            · intro w'
                              go_simp
                              with_reducible rfl
                            rotate_left
                            · simp only [Act.put, List.setIfInBounds_toArray, List.set_cons_zero, List.set_cons_succ, i64_w, i32_w]
                              rfl
                            refine take_ (i := 3) (N := some 70) (v := ?_) (a' := ?_) #[true, true, true, true, true, false, false] rfl rfl (by kernel_rfl) (fun _ _ _ h => h) (Or.inl ⟨by rfl, ?_⟩) hHeld ?_ ?_
                            rotate_left
                            · intro w' s0
                              go_simp
                              with_reducible rfl
                            rotate_left
                            · simp only [Act.put, List.setIfInBounds_toArray, List.set_cons_zero, List.set_cons_succ, i64_w, i32_w]
                              rfl
                            refine one_ (i := 5) (N := some 72) #[true, true, true, true, true, true, false] rfl rfl (by kernel_rfl) (by decide) (fun K hK => ?_)
                            refine goes_ Try.func37 (by kernel_rfl) rfl #[.slice (some ad268) t244.length co8] (by rfl) rfl rfl (by (try simp only [List.map_toArray, List.map_cons, List.map_nil]); first | done | rfl | (simp only [List.length_drop, List.length_take]; rfl)) ?_
                            with_reducible refine (impl_HighBid.calls k3 _ _ t244 t269 _ ?side1 ?side2 A57.out).mono ?_
                            (case side1 => repeat (first | exact (Kd.R_reads' HO_4.out).2.2 | (with_reducible refine Kd.C_alloc ?_ _) | (with_reducible refine Kd.C_drewN ?_ _) | (with_reducible refine Kd.C_drew ?_)))
                            (case side2 => exact (Kd.R_reads' HO_4.out).2.1)
                            rintro e w62 ⟨rfl, hb⟩
                            have HS0_ := (hb.cell (World.block_lt_of_cell? _ _ (hHeld))).trans (hHeld)
                            refine ⟨_, rfl, ?_⟩
                            have n0_ := Aside0.mk (Kd.R_below (by (with_reducible repeat (first | apply Kd.R_alloc | apply Kd.R_drewN | apply Kd.R_drew)); exact HO_4.out) hb)
                            have n1_ := Aside0.mk (below_step (by repeat (first | (with_reducible first | exact HB.out | apply below_alloc | apply pw_below_drewN | apply below_drew1) | exact HB.out)) hb)
                            clear HO_4
                            clear HB
                            have HO_4 := n0_
                            have HB := n1_
                            clear n0_ n1_
                            (try clear hb)
                            (try clear hb2)
                            (try clear hk)
                            (try clear hi)
                            refine hK.out _ _ (HS0_) (fun hHeld => ?_)
                            clear hK K
                            refine norm_ (a' := ?_) ?_ ?_
                            rotate_left
                            · show Act.put _ (some 72) _ = _
                              simp only [Act.put, List.setIfInBounds_toArray, List.set_cons_zero, List.set_cons_succ, i64_w, i32_w]
                              rfl
                            refine pure_ (i := 6) (N := some 73) (v := ?_) (a' := ?_) #[true, true, true, true, true, true, true] rfl rfl (by kernel_rfl) (fun _ _ _ h => h) (Or.inl ⟨by rfl, ?_⟩) ?_ ?_
                            rotate_left
                            · intro w'
                              go_simp
                              with_reducible rfl
                            rotate_left
                            · simp only [Act.put, List.setIfInBounds_toArray, List.set_cons_zero, List.set_cons_succ, i64_w, i32_w]
                              rfl
                            refine done_ (by kernel_rfl) ?_
                            try go_wp2
                            go_roundg k3
                            case measure => have := HJ5.out; have := HK2.out; have := HK3.out; omega
                            case rel => exact ⟨(x8_3), (wrap64 (x9_3 + 1)), (by first | rfl | (simp; done) | (simp [*]; done)), (by first | rfl | (simp; done) | (simp [*]; done)), H', ⟨by have := HJ5.out; have := HK2.out; have := HK3.out; omega⟩, ⟨by (with_reducible repeat (first | apply Kd.R_alloc | apply Kd.R_drewN | apply Kd.R_drew)); exact HO_4.out⟩, ⟨by repeat (first | (with_reducible first | exact HB.out | apply below_alloc | apply pw_below_drewN | apply below_drew1) | exact HB.out)⟩⟩
                        · rw [if_neg c56] at H
                          exact absurd H (by simp)
                      · rw [if_neg c55] at H
                        have c55b0 : decide (x9_3 < (t244.length : Int)) = false := decide_eq_false c55
                        clear c55
                        have HC63 := Aside0.mk H
                        clear H
                        go_upto_region 20 with (fail)
                        go_cut [89] (fun v89 wc => ∃ (kq : Nat) (x89_62 : Bool), v89 = .bool x89_62 ∧ Aside0 (laws_FnCalls.j3 kq l0 x89_62 = some r) ∧ Aside0 (kq ≤ k3) ∧ Aside0 (Below w.heap.size w wc))
                        case first =>
                          have H := HC63.out
                          clear HC63
                          by_cases c64 : x8_3 < 0
                          · rw [if_pos c64] at H
                            have c64b0 : decide (x8_3 < 0) = true := decide_eq_true c64
                            clear c64
                            (first | rw [c64b0] | (simp only [i64_w, i32_w]; rw [c64b0]) | skip)
                            have H' := Aside0.mk H
                            clear H
                            go_wp2
                            first | go_meet | (refine Met.intro ?_; go_step; (repeat apply Exists.intro); refine ⟨?rel, ?same⟩; case same => first | (rw [c64b0]; done) | (rw [c64b0]; rfl))
                            case rel => exact ⟨_, (true), (by first | rfl | (simp; done) | (simp [*]; done)), H', ⟨by have := HJ5.out; have := HK2.out; have := HK3.out; first | omega | exact Nat.le_refl _⟩, ⟨by repeat (first | (with_reducible first | exact HB.out | apply below_alloc | apply pw_below_drewN | apply below_drew1) | exact HB.out)⟩⟩
                          · rw [if_neg c64] at H
                            have c64b0 : decide (x8_3 < 0) = false := decide_eq_false c64
                            clear c64
                            (first | rw [c64b0] | (simp only [i64_w, i32_w]; rw [c64b0]) | skip)
                            by_cases c65 : t243 = 0
                            · rw [if_pos c65] at H
                              exact absurd H (by simp)
                            · rw [if_neg c65] at H
                              have c65b0 : (t243 == 0) = false := beq_eq_false_iff_ne.mpr c65
                              have c65b1 : (t243 != 0) = true := bne_iff_ne.mpr c65
                              by_cases c66 : (Int.tmod x8_3 t243) = t267
                              · rw [if_pos c66] at H
                                have c66b0 : ((Int.tmod x8_3 t243) == t267) = true := beq_iff_eq.mpr c66
                                have c66b1 : ((Int.tmod x8_3 t243) != t267) = false := bne_eq_false_iff_eq.mpr c66
                                clear c66
                                replace H := Option.bind_eq_some_iff.mp H
                                obtain ⟨t270, A670, H⟩ := H
                                replace H : (laws_FnCalls.j3 k3 l0 (!t270)) = some r := H
                                have A67 := Aside0.mk A670
                                clear A670
                                have H' := Aside0.mk H
                                clear H
                                go_wp2_with (first | (go_at_call 35; (with_reducible refine (impl_CallsEnd.calls k3 t243 _ _ t244 t270 _ ?side1 ?side2 A67.out).mono ?_); (case side1 => repeat (first | exact (Kd.R_reads' HO_4.out).2.2 | (with_reducible refine Kd.C_alloc ?_ _) | (with_reducible refine Kd.C_drewN ?_ _) | (with_reducible refine Kd.C_drew ?_))); (case side2 => exact (Kd.R_reads' HO_4.out).2.1); rintro e w' ⟨rfl, ⟨nd, rfl⟩⟩))
                                first | go_meet | (refine Met.intro ?_; go_step; (repeat apply Exists.intro); refine ⟨?rel, ?same⟩; case same => first | (rw [c64b0]; done) | (rw [c64b0]; rfl))
                                case rel => exact ⟨_, (!t270), (by first | rfl | (simp; done) | (simp [*]; done)), H', ⟨by have := HJ5.out; have := HK2.out; have := HK3.out; first | omega | exact Nat.le_refl _⟩, ⟨by repeat (first | (with_reducible first | exact HB.out | apply below_alloc | apply pw_below_drewN | apply below_drew1) | exact HB.out)⟩⟩
                              · rw [if_neg c66] at H
                                have c66b0 : ((Int.tmod x8_3 t243) == t267) = false := beq_eq_false_iff_ne.mpr c66
                                have c66b1 : ((Int.tmod x8_3 t243) != t267) = true := bne_iff_ne.mpr c66
                                have H' := Aside0.mk H
                                clear H
                                go_wp2
                                first | go_meet | (refine Met.intro ?_; go_step; (repeat apply Exists.intro); refine ⟨?rel, ?same⟩; case same => first | (rw [c64b0]; done) | (rw [c64b0]; rfl))
                                case rel => exact ⟨_, (true), (by first | rfl | (simp; done) | (simp [*]; done)), H', ⟨by have := HJ5.out; have := HK2.out; have := HK3.out; first | omega | exact Nat.le_refl _⟩, ⟨by repeat (first | (with_reducible first | exact HB.out | apply below_alloc | apply pw_below_drewN | apply below_drew1) | exact HB.out)⟩⟩
                        case rest =>
                          clear HC63
                          try clear c2
                          try clear p2
                          try clear q2
                          try clear hx2
                          try clear c3
                          try clear c5
                          try clear c6
                          try clear p6
                          try clear c21
                          try clear c21b0
                          try clear c22
                          try clear c23
                          try clear c24
                          try clear p25
                          try clear q25
                          try clear hx25
                          try clear c26
                          try clear p26
                          try clear q26
                          try clear hx26
                          try clear c34
                          try clear c36
                          try clear c37
                          try clear c52
                          try clear c52b0
                          try clear c55
                          try clear c55b0
                          try clear c56
                          try clear c56b0
                          try clear c58
                          try clear c58b0
                          try clear c58b1
                          try clear c64
                          try clear c64b0
                          try clear p64
                          try clear c65
                          try clear c65b0
                          try clear c65b1
                          try clear c66
                          try clear c66b0
                          try clear c66b1
                          try clear hx259_0
                          try clear hx268_0
                          try clear p2
                          try clear p25
                          try clear p259
                          try clear p268
                          try clear p6
                          try clear q2
                          try clear q25
                          try clear q259
                          try clear q268
                          obtain ⟨kq, x89_62, rfl, HA, HJ62, HB⟩ := hcut
                          cases kq with
                          | zero => exact absurd HA.out (by simp [laws_FnCalls.j3])
                          | succ kj62 =>
                            have H := HA.out
                            clear HA
                            simp only [laws_FnCalls.j3] at H
                            by_cases c68 : x89_62 = true
                            · subst c68
                              have H1 : (some false) = some r := by rw [if_pos rfl] at H; exact H
                              clear H
                              have H := H1
                              clear H1
                              obtain rfl := Option.some.inj H
                              go_wp2
                              go_ret
                              exact ⟨by first | rfl | (simp [errW_none, errW_some] <;> rfl) | (simp [*, errW_none, errW_some] <;> rfl), by repeat (first | (with_reducible first | exact HB.out | apply below_alloc | apply pw_below_drewN | apply below_drew1) | exact HB.out)⟩
                            · replace c68 := Bool.eq_false_iff.mpr c68
                              subst c68
                              have H1 : ((spec_DrawHighBid.f kj62 l0).bind fun t271 => ((impl_HighBid.f kj62 t271).bind fun t274 => (some (decide (t274 ≥ 0))))) = some r := by rw [if_neg (show ¬ (false = true) by decide)] at H; exact H
                              clear H
                              have H := H1
                              clear H1
                              replace H := Option.bind_eq_some_iff.mp H
                              obtain ⟨t271, A690, H⟩ := H
                              replace H : ((impl_HighBid.f kj62 t271).bind fun t274 => (some (decide (t274 ≥ 0)))) = some r := H
                              have A69 := Aside0.mk A690
                              clear A690
                              replace H := Option.bind_eq_some_iff.mp H
                              obtain ⟨t274, A700, H⟩ := H
                              replace H : (some (decide (t274 ≥ 0))) = some r := H
                              have A70 := Aside0.mk A700
                              clear A700
                              obtain rfl := Option.some.inj H
                              go_wp2_with (first | ((with_reducible refine gate_callee (f := 38) rfl ?_); refine goesL_ (some 91) rfl rfl Try.func38 (by kernel_rfl) rfl #[.slice A0 l0.length c0] rfl (by (try simp only [List.map_toArray, List.map_cons, List.map_nil]); first | done | rfl | (simp only [List.length_drop, List.length_take]; rfl)) ?_; (with_reducible refine (spec_DrawHighBid.calls kj62 _ _ l0 t271 _ ?side1 ?side2 A69.out).mono ?_); (case side1 => repeat (first | exact (Kd.C_below HR0.out HB.out) | (with_reducible refine Kd.C_alloc ?_ _) | (with_reducible refine Kd.C_drewN ?_ _) | (with_reducible refine Kd.C_drew ?_))); (case side2 => exact HC0.out); rintro e w71 ⟨v272, rfl, ho0, hb⟩; refine ⟨_, rfl, ?_⟩; have n0_ := Aside0.mk (Kd.R_lower ho0 (below_size (by repeat (first | (with_reducible first | exact HB.out | apply below_alloc | apply pw_below_drewN | apply below_drew1) | exact HB.out)))); have n1_ := Aside0.mk (below_step (by repeat (first | (with_reducible first | exact HB.out | apply below_alloc | apply pw_below_drewN | apply below_drew1) | exact HB.out)) hb); clear HB; have HO273 := n0_; have HB := n1_; clear n0_ n1_; (try clear hb); (try clear hb2); (try clear hk); (try clear hi); (try clear ho0); obtain ⟨Ao72, co72, eo72⟩ := Kd.R_slice HO273.out; subst eo72) | ((with_reducible refine gate_callee (f := 37) rfl ?_); refine goesL_ (some 92) rfl rfl Try.func37 (by kernel_rfl) rfl #[.slice Ao72 t271.length co72] rfl (by (try simp only [List.map_toArray, List.map_cons, List.map_nil]); first | done | rfl | (simp only [List.length_drop, List.length_take]; rfl)) ?_; (with_reducible refine (impl_HighBid.calls kj62 _ _ t271 t274 _ ?side1 ?side2 A70.out).mono ?_); (case side1 => repeat (first | exact (Kd.R_reads' HO273.out).2.2 | (with_reducible refine Kd.C_alloc ?_ _) | (with_reducible refine Kd.C_drewN ?_ _) | (with_reducible refine Kd.C_drew ?_))); (case side2 => exact (Kd.R_reads' HO273.out).2.1); rintro e w73 ⟨rfl, hb⟩; refine ⟨_, rfl, ?_⟩; have n0_ := Aside0.mk (Kd.R_below (by (with_reducible repeat (first | apply Kd.R_alloc | apply Kd.R_drewN | apply Kd.R_drew)); exact HO273.out) hb); have n1_ := Aside0.mk (below_step (by repeat (first | (with_reducible first | exact HB.out | apply below_alloc | apply pw_below_drewN | apply below_drew1) | exact HB.out)) hb); clear HO273; clear HB; have HO273 := n0_; have HB := n1_; clear n0_ n1_; (try clear hb); (try clear hb2); (try clear hk); (try clear hi)))
                              go_ret
                              exact ⟨by first | rfl | (simp [errW_none, errW_some] <;> rfl) | (simp [*, errW_none, errW_some] <;> rfl), by repeat (first | (with_reducible first | exact HB.out | apply below_alloc | apply pw_below_drewN | apply below_drew1) | exact HB.out)⟩
                · rw [if_neg c52] at H
                  have c52b0 : decide (0 ≤ t267) = false := decide_eq_false c52
                  clear c52
                  replace H := Option.bind_eq_some_iff.mp H
                  obtain ⟨t275, A740, H⟩ := H
                  replace H : ((impl_HighBid.f k2 t275).bind fun t278 => (some (decide (t278 ≥ 0)))) = some r := H
                  have A74 := Aside0.mk A740
                  clear A740
                  replace H := Option.bind_eq_some_iff.mp H
                  obtain ⟨t278, A750, H⟩ := H
                  replace H : (some (decide (t278 ≥ 0))) = some r := H
                  have A75 := Aside0.mk A750
                  clear A750
                  obtain rfl := Option.some.inj H
                  obtain ⟨Ao76, co76, eo76⟩ := Kd.R_slice HO_5.out
                  subst eo76
                  go_wp2_with (first | ((with_reducible refine gate_callee (f := 36) rfl ?_); refine goesL_ (some 58) rfl rfl Try.func36 (by kernel_rfl) rfl #[.int .i64 t243, .slice Ao8 t244.length co8] rfl (by (try simp only [List.map_toArray, List.map_cons, List.map_nil]); first | done | rfl | (simp only [List.length_drop, List.length_take]; rfl)) ?_; (with_reducible refine (impl_Declarer.calls k2 t243 _ _ t244 t267 _ ?side1 ?side2 A51.out).mono ?_); (case side1 => repeat (first | exact (Kd.R_reads' HO_4.out).2.2 | (with_reducible refine Kd.C_alloc ?_ _) | (with_reducible refine Kd.C_drewN ?_ _) | (with_reducible refine Kd.C_drew ?_))); (case side2 => exact (Kd.R_reads' HO_4.out).2.1); rintro e w77 ⟨rfl, hb⟩; refine ⟨_, rfl, ?_⟩; have n0_ := Aside0.mk (Kd.R_below (by (with_reducible repeat (first | apply Kd.R_alloc | apply Kd.R_drewN | apply Kd.R_drew)); exact HO_4.out) hb); have n1_ := Aside0.mk (Kd.R_below (by (with_reducible repeat (first | apply Kd.R_alloc | apply Kd.R_drewN | apply Kd.R_drew)); exact HO_5.out) hb); have n2_ := Aside0.mk (below_step (by repeat (first | (with_reducible first | exact HB.out | apply below_alloc | apply pw_below_drewN | apply below_drew1) | exact HB.out)) hb); clear HO_4; clear HO_5; clear HB; have HO_4 := n0_; have HO_5 := n1_; have HB := n2_; clear n0_ n1_ n2_; (try clear hb); (try clear hb2); (try clear hk); (try clear hi)) | ((with_reducible refine gate_callee (f := 38) rfl ?_); refine goesL_ (some 91) rfl rfl Try.func38 (by kernel_rfl) rfl #[.slice A0 l0.length c0] rfl (by (try simp only [List.map_toArray, List.map_cons, List.map_nil]); first | done | rfl | (simp only [List.length_drop, List.length_take]; rfl)) ?_; (with_reducible refine (spec_DrawHighBid.calls k2 _ _ l0 t275 _ ?side1 ?side2 A74.out).mono ?_); (case side1 => repeat (first | exact (Kd.C_below HR0.out HB.out) | (with_reducible refine Kd.C_alloc ?_ _) | (with_reducible refine Kd.C_drewN ?_ _) | (with_reducible refine Kd.C_drew ?_))); (case side2 => exact HC0.out); rintro e w78 ⟨v276, rfl, ho0, hb⟩; refine ⟨_, rfl, ?_⟩; have n0_ := Aside0.mk (Kd.R_elder' (by (with_reducible repeat (first | apply Kd.R_alloc | apply Kd.R_drewN | apply Kd.R_drew)); exact HO_4.out) (Kd.R_base ho0) hb); have n1_ := Aside0.mk (Kd.R_elder' (by (with_reducible repeat (first | apply Kd.R_alloc | apply Kd.R_drewN | apply Kd.R_drew)); exact HO_5.out) (Kd.R_base ho0) hb); have n2_ := Aside0.mk (Kd.R_lower (Kd.R_new' (Kd.R_new' ho0 (Kd.R_lt (by (with_reducible repeat (first | apply Kd.R_alloc | apply Kd.R_drewN | apply Kd.R_drew)); exact HO_4.out))) (Kd.R_lt (by (with_reducible repeat (first | apply Kd.R_alloc | apply Kd.R_drewN | apply Kd.R_drew)); exact HO_5.out))) (below_size (by repeat (first | (with_reducible first | exact HB.out | apply below_alloc | apply pw_below_drewN | apply below_drew1) | exact HB.out)))); have n3_ := Aside0.mk (below_step (by repeat (first | (with_reducible first | exact HB.out | apply below_alloc | apply pw_below_drewN | apply below_drew1) | exact HB.out)) hb); clear HO_4; clear HO_5; clear HB; have HO_4 := n0_; have HO_5 := n1_; have HO277 := n2_; have HB := n3_; clear n0_ n1_ n2_ n3_; (try clear hb); (try clear hb2); (try clear hk); (try clear hi); (try clear ho0); obtain ⟨Ao79, co79, eo79⟩ := Kd.R_slice HO277.out; subst eo79) | ((with_reducible refine gate_callee (f := 37) rfl ?_); refine goesL_ (some 92) rfl rfl Try.func37 (by kernel_rfl) rfl #[.slice Ao79 t275.length co79] rfl (by (try simp only [List.map_toArray, List.map_cons, List.map_nil]); first | done | rfl | (simp only [List.length_drop, List.length_take]; rfl)) ?_; (with_reducible refine (impl_HighBid.calls k2 _ _ t275 t278 _ ?side1 ?side2 A75.out).mono ?_); (case side1 => repeat (first | exact (Kd.R_reads' HO277.out).2.2 | (with_reducible refine Kd.C_alloc ?_ _) | (with_reducible refine Kd.C_drewN ?_ _) | (with_reducible refine Kd.C_drew ?_))); (case side2 => exact (Kd.R_reads' HO277.out).2.1); rintro e w80 ⟨rfl, hb⟩; refine ⟨_, rfl, ?_⟩; have n0_ := Aside0.mk (Kd.R_below (by (with_reducible repeat (first | apply Kd.R_alloc | apply Kd.R_drewN | apply Kd.R_drew)); exact HO_4.out) hb); have n1_ := Aside0.mk (Kd.R_below (by (with_reducible repeat (first | apply Kd.R_alloc | apply Kd.R_drewN | apply Kd.R_drew)); exact HO_5.out) hb); have n2_ := Aside0.mk (Kd.R_below (by (with_reducible repeat (first | apply Kd.R_alloc | apply Kd.R_drewN | apply Kd.R_drew)); exact HO277.out) hb); have n3_ := Aside0.mk (below_step (by repeat (first | (with_reducible first | exact HB.out | apply below_alloc | apply pw_below_drewN | apply below_drew1) | exact HB.out)) hb); clear HO_4; clear HO_5; clear HO277; clear HB; have HO_4 := n0_; have HO_5 := n1_; have HO277 := n2_; have HB := n3_; clear n0_ n1_ n2_ n3_; (try clear hb); (try clear hb2); (try clear hk); (try clear hi)))
                  go_ret
                  exact ⟨by first | rfl | (simp [errW_none, errW_some] <;> rfl) | (simp [*, errW_none, errW_some] <;> rfl), by repeat (first | (with_reducible first | exact HB.out | apply below_alloc | apply pw_below_drewN | apply below_drew1) | exact HB.out)⟩

/-- THE ONE PURE STATEMENT of laws_FnCalls: yours. -/
def laws_FnCalls.Pure : Prop := ∀ (l0 : List Int), l0.length ≤ maxLen → l0.length * 1 ≤ 140737488351232 → (∀ x ∈ l0, (Lit.int .u8 x).wf = true) → ∃ k, laws_FnCalls.f k l0 = some true
theorem laws_FnCalls.walk (P : laws_FnCalls.Pure) (a0 : Option Addr) (len0 cap0 : Nat) (z0 : List Int) (w : World) (w0 : (a0 = none ∧ len0 = 0 ∧ cap0 = 0 ∧ z0 = []) ∨ ∃ x, a0 = some x ∧ len0 ≤ cap0 ∧ cap0 ≤ maxLen ∧ z0.length = cap0 ∧ (∀ i, i < z0.length → w.cell? (x.add i) = some (.int .u8 (z0.getD i 0))) ∧ ∀ n ∈ z0, (Lit.int .u8 n).wf = true) (y0 : len0 * 1 ≤ 140737488351232) :
    Calls Try.prog 5 #[.slice a0 len0 cap0] w fun e w' => e = .returned (.bool true) ∧ Below w.heap.size w w' := by
  obtain ⟨l0, rfl, hr0, hm0, hw0, hc0⟩ := ReadsInt.ofRowC w0
  obtain ⟨k, h⟩ := P l0 hm0 y0 hw0
  refine (laws_FnCalls.calls k _ _ l0 true w (Kd.C_of_reads (d := (0 : Int)) (h1 := fun _ => rfl) hr0) hc0 h).mono ?_
  rintro e w' ⟨rfl, hd⟩
  exact ⟨rfl, hd⟩

end Go.Proofs.Ytjnepcpjhhebaaa.QFnCalls
