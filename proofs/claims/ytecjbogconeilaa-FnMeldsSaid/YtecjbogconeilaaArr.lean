/- The region that makes a local array's variable, all zero, as one step; cells of such a variable. No condition beyond each lemma's own. -/
import Derived.Test.YtecjbogconeilaaWMore
import Derived.Deep.WholeRow
namespace Go.Proofs.Ytecjbogconeilaa.Arr
open Go.RowKit Go.Proofs.YtecjbogconeilaaW.PrintWords
theorem run_alloc {P : Program} (t : TypeId) (Z : Array Value) (W : World) (hz : ∀ W, (zeroValue t).run P W = .ok (.agg Z) W) : (Instr.alloc t true (.tuple #[])).run P W = .ok (.pointer (some ⟨W.heap.size, 0, none⟩)) (W.alloc (.cells Z t)) := by
  simp [Instr.alloc, hz, newVar, newRow, Value.cells, Sem.run_bind, Result.andThen, go_sem]
/-- A region that makes an array's variable, all zero. -/
theorem arr_region {P : Program} {ops : Array Oper} {o1 o2 o3 : Oper} {a : Act} {w : World} {Q : Exit → Act → World → Prop} (t : TypeId) (Z : Array Value) (d1 d2 : Tmp)
    (g1 : o1.guard = none) (g2 : o2.guard = none) (g3 : o3.guard = none) (h1 : o1.op = .build t #[]) (e1 : o1.dst = some d1) (h2 : o2.op = .alloc t) (e2 : o2.dst = some d2) (h3 : o3.op = .store t (.tmp d2) (.tmp d1)) (e3 : o3.dst = none)
    (hb : P.built t [] = some Z) (hz : ∀ W, (zeroValue t).run P W = .ok (.agg Z) W) (hi : (P.info? t).map (·.size) = some Z.size) (hone : Z.all (·.oneCell') = true)
    (hx : ((a.put (some d1) (.agg Z)).put (some d2) (.pointer (some ⟨w.heap.size, 0, none⟩))).eval (.tmp d2) = .pointer (some ⟨w.heap.size, 0, none⟩))
    (hy : ((a.put (some d1) (.agg Z)).put (some d2) (.pointer (some ⟨w.heap.size, 0, none⟩))).eval (.tmp d1) = .agg Z)
    (h : Q .normal ((a.put (some d1) (.agg Z)).put (some d2) (.pointer (some ⟨w.heap.size, 0, none⟩))) (w.alloc (.cells Z t))) : wpList P ops Q [o1, o2, o3] a w := by
  refine wpList_build g1 t #[] h1 (by simp [hb]) ?_
  have hZ : (P.built t ((#[] : Array (Nat × Operand)).map fun (i, x) => (i, a.eval x)).toList).getD #[] = Z := by
    simp [hb]
  rw [hZ, e1]
  refine wpList_plain g2 fun K hK => ?_
  unfold Oper.wp execOp
  simp only [h2, Sem.run_bind, run_alloc t Z w hz, Result.andThen_ok, Sem.run_pure, Oper.upon_value, e2]
  refine hK _ _ ?_
  refine wpList_plain g3 fun K hK => ?_
  refine wp_store_row t _ _ h3 w.heap.size Z hx hy t Z (heap_alloc_new w _) hi rfl hone ?_
  refine hK _ _ ?_
  rw [World.setRow_alloc_new, e3]
  exact wpList_nil h
theorem arr_at {α : Type} {enc : α → Value} {W : World} {g : Nat} {s : List α} {t : TypeId} (z : α) (h : W.heap[g]? = some (.cells (s.map enc).toArray t (0, 0))) (i : Int) (h1 : i.toNat < s.length) : W.cell? ⟨g, i.toNat, none⟩ = some (enc (s.getD i.toNat z)) ∧ W.frozen? ⟨g, i.toNat, none⟩ = false := by
  constructor
  · simp [World.cell?, h, List.getD_eq_getElem?_getD, List.getElem?_eq_getElem h1]
  · simp [World.frozen?, h]
theorem arr_put {α : Type} {enc : α → Value} {W : World} {g : Nat} {s : List α} {t : TypeId} (h : W.heap[g]? = some (.cells (s.map enc).toArray t (0, 0))) (i : Int) (x : α) : (W.setCell ⟨g, i.toNat, none⟩ (enc x)).heap[g]? = some (.cells ((s.set i.toNat x).map enc).toArray t (0, 0)) := by
  refine blk_put h i.toNat (enc x) ?_
  apply Array.ext'
  simp [List.map_set]
/-- A world behind some draws gets a name. -/
theorem drawn_goal {P : Program} {c : Code} {K : Exit → Act → World → Prop} {a : Act} {w : World} {n : Nat} (h : ∀ W, Drawn0 w W → c.wp P K a W) : c.wp P K a (w.drewN n) := h _ ⟨⟨n, rfl⟩⟩
theorem drawn_goal0 {P : Program} {c : Code} {K : Exit → Act → World → Prop} {a : Act} {w : World} (h : ∀ W, Drawn0 w W → c.wp P K a W) : c.wp P K a w := h _ (Drawn0.refl _)
theorem R_drawn {α : Type} {d : Kd α} {e base : Nat} {ok : Nat → Prop} {w W : World} {v : Value} {xs : List α} (hW : Drawn0 w W) (h : d.R e w base ok v xs) : d.R e W base ok v xs := by
  obtain ⟨n, rfl⟩ := hW
  exact Kd.R_drewN h n
theorem below_drawn {B : Nat} {w0 w W : World} (hW : Drawn0 w W) (h : Below B w0 w) : Below B w0 W := by
  obtain ⟨n, rfl⟩ := hW
  exact pw_below_drewN h n
end Go.Proofs.Ytecjbogconeilaa.Arr
