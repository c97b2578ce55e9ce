/- The law FnExactAddRound holds of the given program, for all arguments: the row, out of the pure statement and the contract of the law's function; no condition. -/
import Derived.Test.YtcegnlconafikaaRows
import Derived.Test.YtcegnlconafikaaQFnExactAddRoundx3
import Derived.Test.YtcegnlconafikaaPureFnExactAddRound
import Derived.Test.YtcegnlconafikaaCame
import Derived.WalkKit
import Derived.ProofKit
import Derived.OpenShut
import Derived.ShutString
import Derived.ChangeOld
import Derived.Below
import Derived.SizedLaws
import Derived.Carry
namespace Go.Proofs.Ytcegnlconafikaa.fnExactAddRound
open Go.ChangeShapes Go.WideShapes Go.ChangeAt Go.RowKit Go.Joins
set_option linter.unusedVariables false
theorem own : ownKnob Try.prog.godebug = none := by kernel_rfl
theorem laidOut : laidOutB Try.prog = true := by kernel_rfl
set_option maxRecDepth 100000 in
theorem lifted (os : Os) (started : os.Started) (H : Type) (enc : TypeId × Value → H) :
    ReturnsInHanded {} Try.checked os 12 .any (Rows.fnExactAddRoundSpec.pre6 enc Try.prog Try.f12 Rows.fnExactAddRoundRow.domain false) (Rows.fnExactAddRoundSpec.post enc Try.prog Try.f12 false true false false) := by
  refine returnsInHanded_of_change_sized (C := Try.checked) own started (by kernel_rfl) Try.func12
    (ChangeSpec.witness6 (enc := enc) (C := Try.checked) false ⟨#[], #[.int .i64 0, .slice none 0 0, .slice none 0 0], []⟩ 8 (by kernel_rfl) (by kernel_rfl) (by kernel_rfl) (by kernel_rfl)) ?_
  intro W base args ds gs before hval0 hW hcnd hsz0 _
  have hval : ∀ (j : Nat) t v, Try.f12.params[j]? = some t → args[j]? = some v → Value.okWide Try.prog W .any base t v := hval0
  have hW' := hW
  obtain ⟨p, q, hA0, hV, rfl, hfz, hnd⟩ := hW
  have hA : DataW.TrodAll enc Try.prog W 0 (fun _ => true) true Try.f12.params.toList args.toList ds p := hA0
  rw [Try.params12] at hA hval
  obtain ⟨v0, vs0, d0, ds0, p0, q0, hargs, rfl, rfl, h0, r0⟩ := trodAll_cons hA
  obtain ⟨v1, vs1, d1, ds1, p1, q1, rfl, rfl, rfl, h1, r1⟩ := trodAll_cons r0
  obtain ⟨v2, vs2, d2, ds2, p2, q2, rfl, rfl, rfl, h2, r2⟩ := trodAll_cons r1
  obtain ⟨rfl, rfl, rfl⟩ := trodAll_nil r2
  obtain rfl : args = #[v0, v1, v2] := by cases args; simp_all
  obtain ⟨rfl, rfl⟩ := trodVars_none hV
  obtain ⟨a0, rfl, rfl, rfl, hw0⟩ := open_int Try.underlying3 (hval 0 3 v0 rfl rfl) h0
  have k1 := h1
  have lt1 : ∀ x ∈ p1, x.block < W.heap.size := by obtain ⟨m, hm⟩ := k1; exact DataW.trod_lt m _ _ _ hm
  obtain ⟨fuel1, hf1⟩ := h1
  obtain ⟨aa1, len1, cap1, hv1⟩ := okWide_slice Try.underlying22 (hval 1 22 v1 rfl rfl)
  have hf1' : DataW.trod enc Try.prog W 0 (fun _ => true) true fuel1 22 [v1] = some (d1, p1) := by have z := hf1; rw [hv1] at z ⊢; exact z
  clear hv1 hf1
  obtain ⟨A1, c1, l1, rfl, hc1, hr1, hm1, hn1, hw1⟩ := Came.rows Try.underlying22 Try.underlying28 Try.underlying3 (by kernel_rfl) (by kernel_rfl) hf1'
  have k2 := h2
  have lt2 : ∀ x ∈ p2, x.block < W.heap.size := by obtain ⟨m, hm⟩ := k2; exact DataW.trod_lt m _ _ _ hm
  obtain ⟨fuel2, hf2⟩ := h2
  obtain ⟨aa2, len2, cap2, hv2⟩ := okWide_slice Try.underlying28 (hval 2 28 v2 rfl rfl)
  have hf2' : DataW.trod enc Try.prog W 0 (fun _ => true) true fuel2 28 [v2] = some (d2, p2) := by have z := hf2; rw [hv2] at z ⊢; exact z
  clear hv2 hf2
  obtain ⟨A2, c2, l2, rfl, hc2, hr2, hm2, hw2⟩ := Came.ints Try.underlying28 Try.underlying3 (by kernel_rfl) hf2'
  clear hA0 hval0 hsz0
  refine (Pure.FnExactAddRound a0 A1 c1 l1 A2 c2 l2 W hr1 hc1 hr2 hc2 hw0 hm1 hn1 hw1 hm2 hw2).mono fun e W' ⟨he, bel⟩ => ?_
  subst he
  exact ⟨_, rfl, _, _, _, [], _, [], hW', trodAll_mk1 (shut_bool Try.underlying4 _), (trodAll_cons_mk (shut_int Try.underlying3 hw0) (trodAll_cons_mk (Below.trod laidOut (by kernel_rfl) (of_decide_eq_true (by kernel_rfl)) k1 bel lt1) (trodAll_cons_mk (Below.trod laidOut (by kernel_rfl) (of_decide_eq_true (by kernel_rfl)) k2 bel lt2) trodAll_mk0))), rfl, bel.frame _, fun h => by cases h⟩
theorem over : Rows.fnExactAddRoundRow.holds Try.pinned (OpenSpec.ofChange Rows.fnExactAddRoundSpec) :=
  OpenClaim.holds_of_wide 12 Try.f12 rfl rfl rfl rfl rfl rfl rfl ⟨rfl, rfl, rfl, rfl, rfl⟩ rfl rfl rfl rfl rfl (by kernel_rfl) Try.func12 (by kernel_rfl)
    (of_decide_eq_true (by kernel_rfl)) (by unfold Func.isWrapper; first | (rw [if_pos (by decide +kernel)]; kernel_rfl) | (rw [if_neg (by decide +kernel)]; exact ⟨rfl, rfl⟩))
    (fun os started H enc _ => lifted os started H enc)
theorem proved : Rows.FnExactAddRoundSaid := over
#print axioms proved
end Go.Proofs.Ytcegnlconafikaa.fnExactAddRound
namespace Go.Proofs.Ytcegnlconafikaa
/-- The row, under a short name, for the claim. -/
theorem fnExactAddRound_holds : Rows.FnExactAddRoundSaid := fnExactAddRound.proved
end Go.Proofs.Ytcegnlconafikaa
