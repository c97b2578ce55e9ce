/- What came in, read as lists: a slice of whole numbers, a slice of such slices. No condition beyond each lemma's own. -/
import Derived.Test.YtecjbogconeilaaLib
import Derived.OpenShut
import Derived.Deep.Matrix
import Derived.Lib.SmallJoins
namespace Go.Proofs.Ytecjbogconeilaa.Came
open Go.ChangeShapes Go.WideShapes Go.RowKit Go.Proofs.YtecjbogconeilaaW.PrintWords Go.Joins Go.Deep
set_option linter.unusedVariables false

theorem ints_of {A : Option Addr} {len cap : Nat} {zs : List Int} {W : World} (hl : len ≤ cap) (hm : cap ≤ maxLen) (hz : zs.length = cap) (h0 : A = none → cap = 0)
    (hc : ∀ a, A = some a → ∀ i, i < cap → W.cell? (a.add i) = some (.int .i64 (zs.getD i 0))) : Kd.C (Kd.int .i64) W A len (zs.take len) := by
  refine Kd.C_of_reads (d := (0 : Int)) (h1 := fun _ => rfl) ⟨by rw [List.length_take]; omega, by simp only [maxLen] at hm; omega, fun hp => ?_⟩
  cases A with
  | none => exact absurd (h0 rfl) (by omega)
  | some a =>
    refine ⟨a, rfl, fun j hj => ?_⟩
    rw [hc a rfl j (by omega)]
    simp [List.getD_eq_getElem?_getD, hj]

/-- A slice of whole numbers that came in. -/
theorem ints {H : Type} {enc : TypeId × Value → H} {P : Program} {W : World} {base fuel : Nat} {held : Bool} {t e : TypeId} {v : Value} {y : DataW H × List MemPlace} (ht : P.underlying t = some (.slice e)) (he : P.underlying e = some (.int .i64)) (hc : P.cellsOf e = 1)
    (h : DataW.trod enc P W base (fun _ => true) held fuel t [v] = some y) :
    ∃ (A : Option Addr) (c : Nat) (l : List Int), v = .slice A l.length c ∧ l.length ≤ c ∧ Kd.C (Kd.int .i64) W A l.length l ∧ l.length ≤ maxLen ∧ ∀ x ∈ l, (Lit.int .i64 x).wf = true := by
  rcases open_ints ht he hc h with ⟨hcs, _⟩ | ⟨a, len, cap, zs, hcs, _, hl, hm, hz, _, hcell, hwz⟩
  · obtain rfl : v = .slice none 0 0 := by simpa using hcs
    exact ⟨none, 0, [], rfl, Nat.le_refl _, Kd.C_nil _ _, by simp [maxLen], by simp⟩
  · obtain rfl : v = .slice (some a) len cap := by simpa using hcs
    simp only [if_true] at hz
    have hlen : (zs.take len).length = len := by rw [List.length_take]; omega
    have hC : Kd.C (Kd.int .i64) W (some a) len (zs.take len) := ints_of hl hm hz (fun h => by cases h) (fun b hb i hi => by cases hb; exact hcell i (by omega))
    refine ⟨some a, cap, zs.take len, by rw [hlen], by omega, by rw [hlen]; exact hC, by omega, fun x hx => hwz x (List.mem_of_mem_take hx)⟩

/-- A slice of slices of whole numbers that came in. -/
theorem rows {H : Type} {enc : TypeId × Value → H} {P : Program} {W : World} {base fuel : Nat} {held : Bool} {t e q : TypeId} {v : Value} {y : DataW H × List MemPlace} (ht : P.underlying t = some (.slice e)) (he : P.underlying e = some (.slice q)) (hq : P.underlying q = some (.int .i64)) (ce : P.cellsOf e = 1) (cq : P.cellsOf q = 1)
    (h : DataW.trod enc P W base (fun _ => true) held fuel t [v] = some y) :
    ∃ (A : Option Addr) (c : Nat) (l : List (List Int)), v = .slice A l.length c ∧ l.length ≤ c ∧ Kd.C (Kd.slice q (Kd.int .i64)) W A l.length l ∧ l.length ≤ maxLen ∧ (∀ r ∈ l, r.length ≤ maxLen) ∧ ∀ r ∈ l, ∀ x ∈ r, (Lit.int .i64 x).wf = true := by
  rcases Go.Deep.open_int_rows ht he hq ce cq h with ⟨hcs, _⟩ | ⟨a, len, cap, A, L, C, Z, hcs, _, hl, hm, _, hr⟩
  · obtain rfl : v = .slice none 0 0 := by simpa using hcs
    exact ⟨none, 0, [], rfl, Nat.le_refl _, Kd.C_nil _ _, by simp [maxLen], by simp, by simp⟩
  · obtain rfl : v = .slice (some a) len cap := by simpa using hcs
    have hll : ((List.range len).map fun r => (Z r).take (L r)).length = len := by simp
    have hrow : ∀ r, r < len → ((Z r).take (L r)).length = L r := fun r hr' => by
      obtain ⟨_, h1, _, h3, _⟩ := hr r (by omega)
      rw [List.length_take]; omega
    have hC : Kd.C (Kd.slice q (Kd.int .i64)) W (some a) len ((List.range len).map fun r => (Z r).take (L r)) := by
      refine ⟨hll, by simp only [maxLen] at hm; omega, fun hp => ⟨a, rfl, fun j p hj => ?_⟩⟩
      have hjl : j < len := by
        have := (List.getElem?_eq_some_iff.1 hj).1
        rwa [hll] at this
      obtain rfl : (Z j).take (L j) = p := by simpa [hjl] using hj
      obtain ⟨hcell, h1, h2, h3, h4, h5, h6⟩ := hr j (by omega)
      refine ⟨[.slice (A j) (L j) (C j)], rfl, ⟨A j, C j, by rw [hrow j hjl], by rw [hrow j hjl]; exact h1, ?_⟩, fun i u hu => ?_⟩
      · rw [hrow j hjl]
        exact ints_of h1 h2 h3 h5 (fun b hb c hc => (h6 b hb).2 c hc)
      · have hi : i = 0 := by
          have := (List.getElem?_eq_some_iff.1 hu).1
          simpa using this
        subst hi
        have hu' : Value.slice (A j) (L j) (C j) = u := by simpa using hu
        rw [← hu', ← hcell]
        congr 2
        show j * 1 + 0 = j
        omega
    refine ⟨some a, cap, (List.range len).map fun r => (Z r).take (L r), by rw [hll], by omega, by rw [hll]; exact hC, by omega, fun r hr' => ?_, fun r hr' x hx => ?_⟩
    · obtain ⟨j, hj, rfl⟩ := List.mem_map.1 hr'
      have hj' := List.mem_range.1 hj
      obtain ⟨_, h1, h2, _⟩ := hr j (by omega)
      rw [hrow j hj']; omega
    · obtain ⟨j, hj, rfl⟩ := List.mem_map.1 hr'
      have hj' := List.mem_range.1 hj
      obtain ⟨_, _, _, _, h4, _⟩ := hr j (by omega)
      exact h4 x (List.mem_of_mem_take hx)

/-- A whole number that came in as a field. -/
theorem num {H : Type} {enc : TypeId × Value → H} {P : Program} {W : World} {base fuel : Nat} {held : Bool} {t : TypeId} {v : Value} {y : DataW H × List MemPlace} (ht : P.underlying t = some (.int .i64))
    (h : DataW.trod enc P W base (fun _ => true) held fuel t [v] = some y) : ∃ n : Int, v = .int .i64 n ∧ (Lit.int .i64 n).wf = true := by
  obtain ⟨n, hcs, _, hw⟩ := DataW.trod_int ht h
  exact ⟨n, by simpa using hcs, hw⟩

/-- A struct of seven fields of a cell each, by value: its fields. -/
theorem agg7 {H : Type} {enc : TypeId × Value → H} {P : Program} {w : World} {base : Nat} {spare : Nat → Bool} {held : Bool} {r : Reach} {b0 : Nat} {t : TypeId} {f0 f1 f2 f3 f4 f5 f6 : Field} {v : Value} {d : DataW H} {p : List MemPlace} (hs : P.underlying t = some (.struct #[f0, f1, f2, f3, f4, f5, f6])) (hone : oneCellFields P #[f0, f1, f2, f3, f4, f5, f6] = true) (hC : P.cellsOf t = 7)
    (hv : Value.okWide P w r b0 t v) (h : DataW.Trod enc P w base spare held t v d p) :
    ∃ (v0 v1 v2 v3 v4 v5 v6 : Value) (y0 y1 y2 y3 y4 y5 y6 : DataW H × List MemPlace) (n : Nat), v = .agg #[v0, v1, v2, v3, v4, v5, v6] ∧ DataW.trod enc P w base spare held n f0.type [v0] = some y0 ∧ DataW.trod enc P w base spare held n f1.type [v1] = some y1 ∧ DataW.trod enc P w base spare held n f2.type [v2] = some y2 ∧ DataW.trod enc P w base spare held n f3.type [v3] = some y3 ∧ DataW.trod enc P w base spare held n f4.type [v4] = some y4 ∧ DataW.trod enc P w base spare held n f5.type [v5] = some y5 ∧ DataW.trod enc P w base spare held n f6.type [v6] = some y6 := by
  obtain ⟨cs, rfl, hsz⟩ := okWide_struct hs hv
  obtain ⟨l⟩ := cs
  match l, hsz.trans hC with
  | [c0, c1, c2, c3, c4, c5, c6], _ =>
    obtain ⟨fuel, hf⟩ := h
    obtain ⟨xs, n, _, hx, _, hlen, hg⟩ := DataW.trod_struct hs hf
    obtain ⟨o0, k0⟩ := hone_of hone 0 f0 rfl
    obtain ⟨o1, k1⟩ := hone_of hone 1 f1 rfl
    obtain ⟨o2, k2⟩ := hone_of hone 2 f2 rfl
    obtain ⟨o3, k3⟩ := hone_of hone 3 f3 rfl
    obtain ⟨o4, k4⟩ := hone_of hone 4 f4 rfl
    obtain ⟨o5, k5⟩ := hone_of hone 5 f5 rfl
    obtain ⟨o6, k6⟩ := hone_of hone 6 f6 rfl
    match xs, hlen with
    | [y0, y1, y2, y3, y4, y5, y6], _ => exact ⟨c0, c1, c2, c3, c4, c5, c6, y0, y1, y2, y3, y4, y5, y6, n, rfl, by simpa [Value.cells, o0, k0] using hg 0 f0 rfl, by simpa [Value.cells, o1, k1] using hg 1 f1 rfl, by simpa [Value.cells, o2, k2] using hg 2 f2 rfl, by simpa [Value.cells, o3, k3] using hg 3 f3 rfl, by simpa [Value.cells, o4, k4] using hg 4 f4 rfl, by simpa [Value.cells, o5, k5] using hg 5 f5 rfl, by simpa [Value.cells, o6, k6] using hg 6 f6 rfl⟩
end Go.Proofs.Ytecjbogconeilaa.Came
