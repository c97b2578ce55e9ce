/- The law FnExactIsOver holds of the given program, for all arguments: the row, out of the pure statement and the contract of the law's function; no condition. -/
import Derived.Test.YtecjbogconeilaaRows
import Derived.Test.YtecjbogconeilaaQFnExactIsOverx7
import Derived.Test.YtecjbogconeilaaPureFnExactIsOver
import Derived.Test.YtecjbogconeilaaCame
import Derived.WalkKit
import Derived.ProofKit
import Derived.OpenShut
import Derived.ShutString
import Derived.ChangeOld
import Derived.Below
import Derived.SizedLaws
import Derived.Carry
namespace Go.Proofs.Ytecjbogconeilaa.fnExactIsOver
open Go.ChangeShapes Go.WideShapes Go.ChangeAt Go.RowKit Go.Joins
set_option linter.unusedVariables false
theorem own : ownKnob Try.prog.godebug = none := by kernel_rfl
theorem laidOut : laidOutB Try.prog = true := by kernel_rfl
set_option maxRecDepth 100000 in
theorem lifted (os : Os) (started : os.Started) (H : Type) (enc : TypeId × Value → H) :
    ReturnsInHanded {} Try.checked os 7 .any (Rows.fnExactIsOverSpec.pre6 enc Try.prog Try.f7 Rows.fnExactIsOverRow.domain false) (Rows.fnExactIsOverSpec.post enc Try.prog Try.f7 false true false false) := by
  refine returnsInHanded_of_change_sized (C := Try.checked) own started (by kernel_rfl) Try.func7
    (ChangeSpec.witness6 (enc := enc) (C := Try.checked) false ⟨#[], #[.agg #[.slice none 0 0, .int .i64 0, .int .i64 0, .slice none 0 0, .slice none 0 0, .slice none 0 0, .int .i64 0]], []⟩ 8 (by kernel_rfl) (by kernel_rfl) (by kernel_rfl) (by kernel_rfl)) ?_
  intro W base args ds gs before hval0 hW hcnd hsz0 _
  have hval : ∀ (j : Nat) t v, Try.f7.params[j]? = some t → args[j]? = some v → Value.okWide Try.prog W .any base t v := hval0
  have hW' := hW
  obtain ⟨p, q, hA0, hV, rfl, hfz, hnd⟩ := hW
  have hA : DataW.TrodAll enc Try.prog W 0 (fun _ => true) true Try.f7.params.toList args.toList ds p := hA0
  rw [Try.params7] at hA hval
  obtain ⟨v0, vs0, d0, ds0, p0, q0, hargs, rfl, rfl, h0, r0⟩ := trodAll_cons hA
  obtain ⟨rfl, rfl, rfl⟩ := trodAll_nil r0
  obtain rfl : args = #[v0] := by cases args; simp_all
  obtain ⟨rfl, rfl⟩ := trodVars_none hV
  have k0 := h0
  have lt0 : ∀ x ∈ p0, x.block < W.heap.size := by obtain ⟨m, hm⟩ := k0; exact DataW.trod_lt m _ _ _ hm
  obtain ⟨w0_0, w0_1, w0_2, w0_3, w0_4, w0_5, w0_6, y0_0, y0_1, y0_2, y0_3, y0_4, y0_5, y0_6, n0, rfl, g0_0, g0_1, g0_2, g0_3, g0_4, g0_5, g0_6⟩ := Came.agg7 Try.underlying39 (by kernel_rfl) (by kernel_rfl) (hval 0 39 v0 rfl rfl) h0
  obtain ⟨A0_0, c0_0, l0_0, rfl, hc0_0, hr0_0, hm0_0, hn0_0, hw0_0⟩ := Came.rows Try.underlying32 Try.underlying24 Try.underlying3 (by kernel_rfl) (by kernel_rfl) g0_0
  obtain ⟨a0_1, rfl, hw0_1⟩ := Came.num Try.underlying3 g0_1
  obtain ⟨a0_2, rfl, hw0_2⟩ := Came.num Try.underlying3 g0_2
  obtain ⟨A0_3, c0_3, l0_3, rfl, hc0_3, hr0_3, hm0_3, hw0_3⟩ := Came.ints Try.underlying24 Try.underlying3 (by kernel_rfl) g0_3
  obtain ⟨A0_4, c0_4, l0_4, rfl, hc0_4, hr0_4, hm0_4, hw0_4⟩ := Came.ints Try.underlying24 Try.underlying3 (by kernel_rfl) g0_4
  obtain ⟨A0_5, c0_5, l0_5, rfl, hc0_5, hr0_5, hm0_5, hw0_5⟩ := Came.ints Try.underlying24 Try.underlying3 (by kernel_rfl) g0_5
  obtain ⟨a0_6, rfl, hw0_6⟩ := Came.num Try.underlying3 g0_6
  clear hA0 hval0 hsz0
  obtain ⟨k, hk⟩ := Pure.FnExactIsOver l0_0 a0_1 a0_2 l0_3 l0_4 l0_5 a0_6 hm0_0 hn0_0 hw0_0 hw0_1 hw0_2 hm0_3 hw0_3 hm0_4 hw0_4 hm0_5 hw0_5 hw0_6
  refine (QFnExactIsOver.laws_FnExactIsOver.calls k A0_0 c0_0 l0_0 a0_1 a0_2 A0_3 c0_3 l0_3 A0_4 c0_4 l0_4 A0_5 c0_5 l0_5 a0_6 true W hr0_0 hc0_0 hr0_3 hc0_3 hr0_4 hc0_4 hr0_5 hc0_5 hk).mono fun e W' ⟨he, bel⟩ => ?_
  subst he
  exact ⟨_, rfl, _, _, _, [], _, [], hW', trodAll_mk1 (shut_bool Try.underlying4 _), (trodAll_cons_mk (Below.trod laidOut (by kernel_rfl) (of_decide_eq_true (by kernel_rfl)) k0 bel lt0) trodAll_mk0), rfl, bel.frame _, fun h => by cases h⟩
theorem over : Rows.fnExactIsOverRow.holds Try.pinned (OpenSpec.ofChange Rows.fnExactIsOverSpec) :=
  OpenClaim.holds_of_wide 7 Try.f7 rfl rfl rfl rfl rfl rfl rfl ⟨rfl, rfl, rfl, rfl, rfl⟩ rfl rfl rfl rfl rfl (by kernel_rfl) Try.func7 (by kernel_rfl)
    (of_decide_eq_true (by kernel_rfl)) (by unfold Func.isWrapper; first | (rw [if_pos (by decide +kernel)]; kernel_rfl) | (rw [if_neg (by decide +kernel)]; exact ⟨rfl, rfl⟩))
    (fun os started H enc _ => lifted os started H enc)
theorem proved : Rows.FnExactIsOverSaid := over
#print axioms proved
end Go.Proofs.Ytecjbogconeilaa.fnExactIsOver
namespace Go.Proofs.Ytecjbogconeilaa
/-- The row, under a short name, for the claim. -/
theorem fnExactIsOver_holds : Rows.FnExactIsOverSaid := fnExactIsOver.proved
end Go.Proofs.Ytecjbogconeilaa
