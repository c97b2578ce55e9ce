/- A pointer's struct of a text, a place and a row of the call's own. No condition beyond each lemma's own. -/
import Derived.Test.YtecjbogconeilaaCopy
namespace Go.Proofs.Ytecjbogconeilaa.Note
open Go.RowKit Go.Proofs.YtecjbogconeilaaW.PrintWords Go.Proofs.YtecjbogconeilaaW.PrintLast Go.Proofs.YtecjbogconeilaaW.PrintMore
set_option linter.unusedVariables false
set_option linter.unusedSimpArgs false

def IsN (e t : TypeId) (w0 W : World) (g : Nat) (s : ByteArray) (i : Int) (v : Value) (xs : List Int) : Prop :=
  W.heap[g]? = some (.cells #[.string s, .int .i64 i, v] t (0, 0)) ∧ w0.heap.size ≤ g ∧ Kd.R (Kd.int .i64) e W w0.heap.size (fun _ => True) v xs ∧ e ≠ t
/-- The row has been appended to, and isn't stored yet. -/
def IsM (e t : TypeId) (w0 W : World) (g : Nat) (s : ByteArray) (i : Int) (u v : Value) (xs : List Int) : Prop :=
  W.heap[g]? = some (.cells #[.string s, .int .i64 i, u] t (0, 0)) ∧ w0.heap.size ≤ g ∧ Kd.R (Kd.int .i64) e W w0.heap.size (fun _ => True) v xs ∧ e ≠ t
variable {e t : TypeId} {w0 W : World} {g : Nat} {s : ByteArray} {i : Int} {u v : Value} {xs : List Int}
theorem IsN.drewN (h : IsN e t w0 W g s i v xs) (m : Nat) : IsN e t w0 (W.drewN m) g s i v xs := ⟨blk_drewN h.1 m, h.2.1, Kd.R_drewN h.2.2.1 m, h.2.2.2⟩
theorem IsN.drew (h : IsN e t w0 W g s i v xs) : IsN e t w0 W.drew g s i v xs := ⟨blk_drew h.1, h.2.1, Kd.R_drew h.2.2.1, h.2.2.2⟩
theorem IsM.drewN (h : IsM e t w0 W g s i u v xs) (m : Nat) : IsM e t w0 (W.drewN m) g s i u v xs := ⟨blk_drewN h.1 m, h.2.1, Kd.R_drewN h.2.2.1 m, h.2.2.2⟩
theorem IsM.drew (h : IsM e t w0 W g s i u v xs) : IsM e t w0 W.drew g s i u v xs := ⟨blk_drew h.1, h.2.1, Kd.R_drew h.2.2.1, h.2.2.2⟩
theorem apart (h : e ≠ t) : ∀ q, q ∈ e :: (Kd.int .i64).E → q ≠ t := by
  intro q hq
  rcases List.mem_cons.1 hq with rfl | hq
  · exact h
  · cases hq
theorem row_set (h : Kd.R (Kd.int .i64) e W w0.heap.size (fun _ => True) v xs) {cells : Array Value} (hb : W.heap[g]? = some (.cells cells t (0, 0))) (ht : e ≠ t) (j : Nat) (u : Value) : Kd.R (Kd.int .i64) e (W.setCell ⟨g, j, none⟩ u) w0.heap.size (fun _ => True) v xs :=
  Kd.R_mono (Kd.R_kept (Kd.R_types h hb (apart ht)) (Kept.setCell (S := fun k => k = g) (Kept.refl W _) (p := ⟨g, j, none⟩) (.inl rfl) u) (fun k hk e => hk.2 e)) (fun _ hk => hk.1)
theorem IsN.set_1 (h : IsN e t w0 W g s i v xs) (x : Int) : IsN e t w0 (W.setCell ⟨g, 1, none⟩ (.int .i64 x)) g s x v xs :=
  ⟨by simpa using blk_set h.1 1 (.int .i64 x), h.2.1, row_set h.2.2.1 h.1 h.2.2.2 1 _, h.2.2.2⟩
theorem IsM.set_2 (h : IsM e t w0 W g s i u v xs) : IsN e t w0 (W.setCell ⟨g, 2, none⟩ v) g s i v xs :=
  ⟨by simpa using blk_set h.1 2 v, h.2.1, row_set h.2.2.1 h.1 h.2.2.2 2 _, h.2.2.2⟩
theorem IsN.ge (h : IsN e t w0 W g s i v xs) : w0.heap.size ≤ g := h.2.1
theorem IsN.below {w1 : World} (h : IsN e t w0 W g s i v xs) (hb : Below W.heap.size W w1) : IsN e t w0 w1 g s i v xs := ⟨blk_below h.1 hb, h.2.1, Kd.R_below h.2.2.1 hb, h.2.2.2⟩
theorem IsM.ge (h : IsM e t w0 W g s i u v xs) : w0.heap.size ≤ g := h.2.1
theorem IsN.row (h : IsN e t w0 W g s i v xs) : Kd.R (Kd.int .i64) e W w0.heap.size (fun _ => True) v xs := h.2.2.1
theorem IsN.grow {w1 : World} {ys : List Int} (h : IsN e t w0 W g s i u xs) (hg : W.grownBy w1 u.ownBlock) (ho : Kd.R (Kd.int .i64) e w1 w0.heap.size (fun _ => True) v ys) : IsM e t w0 w1 g s i u v ys :=
  ⟨blk_grown h.1 hg (Kd.R_ne h.2.2.1 h.1 h.2.2.2), h.2.1, ho, h.2.2.2⟩
theorem IsN.c0 (h : IsN e t w0 W g s i v xs) : W.cell? ⟨g, 0, none⟩ = some (.string s) := (blk_cell h.1 0).trans rfl
theorem IsN.c1 (h : IsN e t w0 W g s i v xs) : W.cell? ⟨g, 1, none⟩ = some (.int .i64 i) := (blk_cell h.1 1).trans rfl
theorem IsN.c2 (h : IsN e t w0 W g s i v xs) : W.cell? ⟨g, 2, none⟩ = some v := (blk_cell h.1 2).trans rfl
theorem IsM.c2 (h : IsM e t w0 W g s i u v xs) : W.cell? ⟨g, 2, none⟩ = some u := (blk_cell h.1 2).trans rfl
theorem IsN.fz (h : IsN e t w0 W g s i v xs) (j : Nat) : W.frozen? ⟨g, j, none⟩ = false := blk_frozen h.1 j
theorem IsM.fz (h : IsM e t w0 W g s i u v xs) (j : Nat) : W.frozen? ⟨g, j, none⟩ = false := blk_frozen h.1 j
theorem IsN.new (e t : TypeId) (w0 : World) (s : ByteArray) (h : e ≠ t) : IsN e t w0 (w0.alloc (.cells #[.string s, .int .i64 0, .slice none 0 0] t)) w0.heap.size s 0 (.slice none 0 0) [] :=
  ⟨by simpa using heap_alloc_new w0 _, Nat.le_refl _, Kd.R_nil _ _ _ _ _, h⟩
end Go.Proofs.Ytecjbogconeilaa.Note
