/- Rows of rows marked. No condition. -/
import Derived.Test.YtecjbogconeilaaSheets
namespace Go.Proofs.Ytecjbogconeilaa.Lib
open Go.RowKit Go.Proofs.YtecjbogconeilaaW.PrintWords Go.Proofs.YtecjbogconeilaaW.PrintLast Go.Proofs.YtecjbogconeilaaW.PrintMore
set_option linter.unusedVariables false
set_option linter.unusedSimpArgs false

def markRows : Int → List (List Int) → List (List Int)
  | _, [] => []
  | a, r :: t => marks a r.length :: markRows (a + (r.length : Int)) t
theorem markRows_length : ∀ (l : List (List Int)) (a : Int), (markRows a l).length = l.length
  | [], _ => rfl
  | r :: t, a => by simp [markRows, markRows_length t]
theorem markRows_snoc : ∀ (l : List (List Int)) (a : Int) (r : List Int), markRows a (l ++ [r]) = markRows a l ++ [marks (a + (totalLen l : Int)) r.length]
  | [], a, r => by simp [markRows, totalLen]
  | x :: t, a, r => by
    rw [List.cons_append]
    unfold markRows
    rw [markRows_snoc t, totalLen_cons, List.cons_append, show a + (x.length : Int) + (totalLen t : Int) = a + ((x.length + totalLen t : Nat) : Int) by omega]
theorem totalLen_snoc (l : List (List Int)) (r : List Int) : totalLen (l ++ [r]) = totalLen l + r.length := by simp [totalLen]
theorem totalLen_split (l : List (List Int)) (i : Nat) : totalLen l = totalLen (l.take i) + totalLen (l.drop i) := by
  unfold totalLen
  rw [← List.sum_append, ← List.map_append, List.take_append_drop]
theorem totalLen_le : ∀ (l : List (List Int)) (b : Nat), (∀ r ∈ l, r.length ≤ b) → totalLen l ≤ b * l.length
  | [], b, _ => by simp [totalLen]
  | r :: l, b, h => by
    have h1 := h r (by simp)
    have h2 := totalLen_le l b (fun x hx => h x (by simp [hx]))
    rw [totalLen_cons, List.length_cons, Nat.mul_succ]
    omega
end Go.Proofs.Ytecjbogconeilaa.Lib
