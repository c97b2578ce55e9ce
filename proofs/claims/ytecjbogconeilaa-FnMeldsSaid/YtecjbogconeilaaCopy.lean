/- copy(out[k+1:], out[k:]) on a row of the call's own, as one step. No condition beyond each lemma's own. -/
import Derived.Test.YtecjbogconeilaaWMore
import Derived.Laws.CopyOwn
import Derived.Deep.RegionLaw
namespace Go.Proofs.Ytecjbogconeilaa.Arr
open Go.RowKit Go.Proofs.YtecjbogconeilaaW.PrintWords
set_option linter.unusedVariables false
set_option linter.unusedSimpArgs false

/-- The row behind copy(out[k+1:], out[k:]). -/
def shifted {α : Type} (xs : List α) (k : Nat) : List α := xs.take (k + 1) ++ (xs.drop k).take (xs.length - (k + 1))
theorem shifted_length {α : Type} (xs : List α) (k : Nat) (h : k < xs.length) : (shifted xs k).length = xs.length := by simp [shifted]; omega

/-- One step of a region that draws: a copy whose run is told. -/
theorem step_copy {P : Program} {ops : Array Oper} {o : Oper} {a : Act} {w : World} {K : Act → World → Prop} {Q : Exit → Act → World → Prop} {E : Prop}
    (hg : o.guard = none) (d x : Operand) (dT sT : TypeId) (hop : o.op = Op.call { callee := Callee.builtin Builtin.copy, args := #[d, x], argTypes := #[dT, sT] })
    (v u : Value) (hd : a.eval d = v) (hx : a.eval x = u) {v' : Value} {w' : World} (hr : (Builtin.copy_ #[dT, sT] o.type #[v, u]).run P w = .ok v' w') (hK : K (a.put o.dst v') w') :
    if Region.wanted o (yielded ops a.tmps) = true then Oper.wp P o a w K Q else E := by
  have hw : Region.wanted o (yielded ops a.tmps) = true := by simp [Region.wanted, hg]
  rw [if_pos hw]
  unfold Oper.wp
  simp [execOp, hop, resolve, invoke, builtin, hd, hx, hr, Result.andThen]
  exact hK

theorem run_shift {P : Program} {w0 W : World} {g n cap k B : Nat} {e t : TypeId} {ok : Nat → Prop} {xs : List Int} (hu : P.underlying t = some (.slice e)) (hsz : (P.info? e).map (·.size) = some 1)
    (h : Kd.R (Kd.int .i64) e W B ok (.slice (some ⟨g, 0, none⟩) n cap) xs) (hB : Below B w0 W) (hk : k < n) (dp sp : Option Addr) (c1 c2 : Nat) (hd : k + 1 < n → dp = some ⟨g, k + 1, none⟩) (hs : sp = some ⟨g, k, none⟩) :
    ∃ W', (∀ ty, (Builtin.copy_ #[t, t] ty #[.slice dp (n - (k + 1)) c1, .slice sp (n - k) c2]).run P W = .ok (goInt (n - (k + 1) : Nat)) W') ∧
      Kd.R (Kd.int .i64) e W' B ok (.slice (some ⟨g, 0, none⟩) n cap) (shifted xs k) ∧ Below B w0 W' ∧ W.grownBy W' (some g) := by
  subst hs
  have ho := Kd.own_of_R h
  have hok := h.1
  have hlen : xs.length = n := (Kd.R_reads' h).1.symm
  by_cases h0 : k + 1 < n
  · rw [hd h0]
    rcases ho.2 with ⟨he, _⟩ | ⟨g', cap', cur, he, hb, hh, hnc, hcm, hcs, hcx⟩
    · cases he
    · obtain ⟨rfl, rfl⟩ : g = g' ∧ cap = cap' := by injection he with he1 he2 he3; injection he1 with he1; injection he1 with he1; exact ⟨he1, he3⟩
      rw [hlen, Nat.mul_one] at hcx
      have hcl : n ≤ cur.toList.length := by simp; omega
      obtain ⟨cs, hcse⟩ : ∃ cs, cs = ((xs.drop k).take (n - (k + 1))).map (Value.int .i64) := ⟨_, rfl⟩
      have hcsl : cs.length = n - (k + 1) := by rw [hcse]; simp; omega
      have hcur : ∀ j, j < n → cur.toList[j]? = some (.int .i64 (xs.getD j 0)) := by
        intro j hj
        have : (cur.toList.take n)[j]? = (encs (Value.int .i64) xs)[j]? := by rw [hcx]
        rw [List.getElem?_take, if_pos hj] at this
        rw [this]
        simp [encs, List.getElem?_eq_getElem (show j < xs.length by omega), List.getD_eq_getElem?_getD]
      have hrun := fun ty => run_copy_row (P := P) W t t ty e g (k + 1) (n - (k + 1)) c1 ⟨g, k, none⟩ (n - k) c2 cur e cs hu hsz hh (by rw [hcsl]; simp only [Nat.min_def]; split <;> omega)
        (fun j v hj => by
          have hjl : j < n - (k + 1) := by
            have := (List.getElem?_eq_some_iff.1 hj).1
            omega
          have ha : (⟨g, k, none⟩ : Addr).add j = ⟨g, k + j, none⟩ := by unfold Addr.add; split <;> simp_all
          rw [ha]
          simp only [World.cell?, hh]
          have h3 := hcur (k + j) (by omega)
          rw [Array.getElem?_toList] at h3
          have h4 : cs[j]? = some (.int .i64 (xs.getD (k + j) 0)) := by
            rw [hcse]
            simp [List.getElem?_take, hjl, List.getElem?_drop, List.getElem?_eq_getElem (show k + j < xs.length by omega), List.getD_eq_getElem?_getD]
          rw [h4] at hj
          simpa [h3] using hj)
        (by rw [hcsl]; simp at hcl; omega) (by intro v hv; rw [hcse] at hv; obtain ⟨_, _, rfl⟩ := List.mem_map.1 hv; rfl)
      rw [hcsl] at hrun
      refine ⟨_, fun ty => hrun ty, ?_, below_setRow hB hb _, ⟨rfl, rfl, rfl, by simp [World.setRow], fun i hi hne => setRow_other W g i _ (by intro e; exact hne (by rw [e]))⟩⟩
      have hsl := shifted_length xs k (by omega)
      refine Kd.R_of_own (xs := shifted xs k) ?_ hok
      refine ⟨by simp [encs, hsl], .inr ⟨g, cap, _, by rw [hsl, hlen], hb, setRow_heap W g cur _ e _ hh, by omega, hcm, ?_, ?_⟩⟩
      · simp [hcsl]; simp at hcl; omega
      · rw [hsl, Nat.mul_one, hlen]
        apply List.ext_getElem?
        intro i
        have hcl' : n ≤ cur.size := by simpa using hcl
        by_cases hi : i < n
        · rw [List.getElem?_take, if_pos hi]
          by_cases h1 : i < k + 1
          · rw [List.append_assoc, List.getElem?_append_left (by simp; omega), List.getElem?_take, if_pos h1, hcur i hi]
            simp [encs, shifted, List.getElem?_append, h1, hlen, show i < xs.length by omega, List.getD_eq_getElem?_getD, show i < min (k + 1) n by omega]
            rw [List.getElem?_eq_getElem (show i < xs.length by omega)]; rfl
          · rw [List.append_assoc, List.getElem?_append_right (by simp; omega), List.getElem?_append_left (by simp [hcsl]; omega), hcse]
            have h5 : min (k + 1) cur.size = k + 1 := by omega
            have h6 : min (k + 1) n = k + 1 := by omega
            simp [encs, shifted, List.getElem?_append, h5, h6, h1, hlen]
        · rw [List.getElem?_take, if_neg hi, List.getElem?_eq_none (by simp [encs, hsl]; omega)]
  · have hk1 : k + 1 = n := by omega
    refine ⟨W, fun ty => ?_, ?_, hB, World.grownBy.refl W _⟩
    · have := run_copy_none (P := P) W t t ty e dp (some ⟨g, k, none⟩) (n - (k + 1)) c1 (n - k) c2 hu hsz (by simp only [Nat.min_def]; split <;> omega)
      rw [this]
      congr 2
      omega
    · have : shifted xs k = xs := by
        unfold shifted
        rw [show xs.length - (k + 1) = 0 by omega, List.take_of_length_le (by omega)]
        simp
      rw [this]; exact h
/-- out[m:] of a row that begins at its block's head. -/
theorem cut_from {P : Program} (t e : TypeId) {i : TypeInfo} (ht : P.underlying t = some (.slice e)) (hi : P.info? e = some i) (hsz : i.size = 1) (g n c m : Nat) (hm : m ≤ n) (hc : n ≤ c) :
    ∃ dp : Option Addr, (∀ W : World, (Instr.slice t (.slice (some ⟨g, 0, none⟩) n c) (some (.int .i64 (m : Int))) none none).run P W = .ok (.slice dp (n - m) (c - m)) W) ∧ (m < n → dp = some ⟨g, m, none⟩) := by
  refine ⟨if c = m then some ⟨g, 0, none⟩ else some ⟨g, m, none⟩, fun W => ?_, fun h => if_neg (by omega)⟩
  have hel : P.elem t = e := by simp [Program.elem, ht]
  have hu : P.underlying t = some (.slice (P.elem t)) := by rw [hel]; exact ht
  have ha : (⟨g, 0, none⟩ : Addr).add m = ⟨g, m, none⟩ := by unfold Addr.add; split <;> simp_all
  rw [run_slice_l W t (some ⟨g, 0, none⟩) n c hu .i64 (m : Int) (Int.natCast_nonneg _) (by omega), hel]
  simp [sizeOf, typeInfo, hi, hsz, sliced, Result.andThen, ha]
/-- append behind the making of its one cell and a draw of the region's order. -/
theorem append_drew {α : Type} (d : Kd α) {P : Program} {ops : Array Oper} {o : Oper} {a : Act} {w0 W : World} {Kc : Act → World → Prop} {Q : Exit → Act → World → Prop} {E : Prop} (base : Nat)
    (hg : o.guard = none) (s x : Operand) (t e : TypeId) (z : Value) (bytes : Nat)
    (ho : o.op = .call { callee := .builtin .append, args := #[s, x], argTypes := #[t, t] })
    (ht : P.underlying t = some (.slice e)) (hinfo : (P.info? e).map (fun i => (i.zero, i.size, i.bytes)) = some (some z, d.sz, bytes)) (hz : z.cells.size = d.sz) (hs0 : 0 < d.sz) (hb0 : 0 < bytes)
    (v : Value) (xs : List α) (p : α) (cs : List Value) (ok okp : Nat → Prop) (hs : a.eval s = v) (hx : a.eval x = .slice (some ⟨W.heap.size, 0, none⟩) 1 1) (hp : d.M W.drew base okp p cs) (hokp : ∀ k, okp k → ok k ∧ some k ≠ v.ownBlock) (hfresh : ∀ k, W.heap.size ≤ k → ok k)
    (HO : d.R e W base ok v xs) (HB : Below base w0 W) (hbase : base ≤ W.heap.size) (hl : (xs.length + 1) * bytes ≤ 140737488355328)
    (h : ∀ v1 w1, d.R e w1 base ok v1 (xs ++ [p]) → Below base w0 w1 → Kc (a.put o.dst v1) w1) :
    if Region.wanted o (yielded ops a.tmps) = true then Oper.wp P o a ((W.alloc (.cells cs.toArray e)).drew) Kc Q else E := by
  have hw : Region.wanted o (yielded ops a.tmps) = true := by simp [Region.wanted, hg]
  have h2 := Kd.R_append_step (P := P) (ops := ops) (o := o) (a := a) (W := W.drew) (Kc := Kc) (Q := Q) d (w0 := w0) base hw s x t e z bytes ho ht hinfo hz hs0 hb0 v xs p cs ok okp hs hx hp hokp hfresh (Kd.R_drew HO) (below_drew1 HB) hbase hl (fun v1 w1 h1 h2 _ _ => h v1 w1 h1 h2)
  rw [if_pos hw] at h2 ⊢
  exact h2
end Go.Proofs.Ytecjbogconeilaa.Arr
