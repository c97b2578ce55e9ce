/- In the given program FnExactKindName answers true for every input, by what its functions compute; no condition. -/
import Derived.Test.YtcekakabpfmhdaaPFnExactKindNamex1
import Derived.Test.YtcekakabpfmhdaaLib
import Derived.Test.YtcekakabpfmhdaaCards
namespace Go.Proofs.Ytcekakabpfmhdaa.Pure
open Go.RowKit Go.Proofs.Ytcekakabpfmhdaa.PFnExactKindName Go.Proofs.YtcekakabpfmhdaaW.PrintWords Go.Proofs.YtcekakabpfmhdaaW.PrintLast Go.Proofs.YtcekakabpfmhdaaW.PrintMore Go.Proofs.Ytcekakabpfmhdaa.Lib
set_option linter.unusedVariables false
set_option linter.unusedSimpArgs false

theorem spec_l1In_eq (n a b : Int) : spec_l1In.f n a b = some (inR n a b) := by
  unfold spec_l1In.f inR
  by_cases h : a ≤ n
  · rw [if_pos (by omega)]; simp [h]
  · rw [if_neg (by omega)]; simp [h]

theorem impl_InRange_eq (n a b : Int) : impl_InRange.f n a b = some (inR n a b) := by
  unfold impl_InRange.f inR
  by_cases h : a ≤ n
  · rw [if_pos (by omega)]; simp [h]
  · rw [if_neg (by omega)]; simp [h]

theorem FnExactKindName : laws_FnExactKindName.Pure := by
  intro c _
  unfold laws_FnExactKindName.f spec_KindName.f impl_KindName.f
  rw [spec_l1In_eq, impl_InRange_eq]
  simp only [Option.bind_some]
  by_cases h : inR c 0 8 = true
  · have h2 := (inR_iff _ _ _).1 h
    rw [if_pos h, if_pos h2.1, if_pos (by simp; omega)]
    simp
  · rw [if_neg h]
    simp

end Go.Proofs.Ytcekakabpfmhdaa.Pure
