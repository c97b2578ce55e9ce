/- Plain lemmas on rounds, lists and whole numbers, under the pure statements. No condition. -/
import Derived.Test.YtecjbogconeilaaWMore
import Derived.Test.YtecjbogconeilaaWSized
namespace Go.Proofs.Ytecjbogconeilaa.PrintWords
open Go.ChangeShapes Go.WideShapes
/-- The printed row names this lemma so. -/
theorem sized_ints {H : Type} {enc : TypeId × Value → H} {P : Program} {W : World} {base : Nat} {spare : Nat → Bool} {held : Bool} {t e : TypeId} {k : IntKind} {a : Option Addr} {len cap : Nat} {d : DataW H} {ps : List MemPlace} {ts : List TypeId} {ds : List (DataW H)} {j : Nat}
    (hsz : (DataW.weightsEach P ts ds).all (· ≤ reachBytes) = true) (ht : ts[j]? = some t) (hd : ds[j]? = some d) (hu : P.underlying t = some (.slice e)) (he : P.underlying e = some (.int k)) (hc : P.cellsOf e = 1) {B : Nat} (hB : P.bytesOf e = B)
    (h : DataW.Trod enc P W base spare held t (.slice a len cap) d ps) : len * B ≤ 140737488351232 :=
  Go.Proofs.YtecjbogconeilaaW.PrintWords.sized_ints hsz ht hd hu he hc hB h
end Go.Proofs.Ytecjbogconeilaa.PrintWords
namespace Go.Proofs.Ytecjbogconeilaa.Lib
open Go.RowKit Go.Proofs.YtecjbogconeilaaW.PrintWords Go.Proofs.YtecjbogconeilaaW.PrintLast Go.Proofs.YtecjbogconeilaaW.PrintMore
set_option linter.unusedVariables false
set_option linter.unusedSimpArgs false

theorem ev_pos {α : Type} {c : Prop} [Decidable c] {a b : Nat → Option α} {r : α} (h : c) (k : Ev a r) : Ev (fun n => if c then a n else b n) r := Ev.congr (fun n => if_pos h) k
theorem ev_neg {α : Type} {c : Prop} [Decidable c] {a b : Nat → Option α} {r : α} (h : ¬ c) (k : Ev b r) : Ev (fun n => if c then a n else b n) r := Ev.congr (fun n => if_neg h) k
theorem ev_eq {α β : Type} {g : Option α} {v : α} {f : Nat → α → Option β} {r : β} (h : g = some v) (k : Ev (fun n => f n v) r) : Ev (fun n => g.bind (f n)) r := Ev.congr (fun n => by rw [h]; rfl) k
theorem ev_ret {α : Type} {a b : α} (h : a = b) : Ev (fun _ => some a) b := h ▸ Ev.now a
theorem ev_ite {α : Type} {c : Prop} [Decidable c] {a b : Nat → Option α} {r : α} (h : c → Ev a r) (k : ¬ c → Ev b r) : Ev (fun n => if c then a n else b n) r := by
  by_cases hc : c
  · exact ev_pos hc (h hc)
  · exact ev_neg hc (k hc)
theorem ev_unfold {α : Type} {g f : Nat → Option α} {r : α} (h : ∀ k, g (k + 1) = f k) (k : Ev f r) : Ev g r := Ev.step h k
theorem ev_done {α : Type} {g : Nat → Option α} {r q : α} (h : Ev g r) (e : r = q) : Ev g q := e ▸ h
theorem ev_uniq {α : Type} {g : Nat → Option α} {r q : α} (h : Ev g r) (h' : Ev g q) : r = q := by
  obtain ⟨K, hK⟩ := h
  obtain ⟨K', hK'⟩ := h'
  have a := hK (max K K') (Nat.le_max_left _ _)
  have b := hK' (max K K') (Nat.le_max_right _ _)
  rw [a] at b
  exact Option.some.inj b

theorem w64 (n : Int) (h : -9223372036854775808 ≤ n ∧ n ≤ 9223372036854775807) : wrap64 n = n := by unfold wrap64; omega
theorem w64next (i : Nat) (h : i ≤ 4611686018427387904) : wrap64 ((i : Int) + 1) = ((i + 1 : Nat) : Int) := by unfold wrap64; omega
theorem wf64 {n : Int} (h : (Lit.int .i64 n).wf = true) : -9223372036854775808 ≤ n ∧ n ≤ 9223372036854775807 := by
  have h2 : IntKind.i64.min ≤ n ∧ n ≤ IntKind.i64.max := by simpa [Lit.wf] using h
  exact h2
theorem rd_at (l : List Int) (i : Nat) (h : i < l.length) : rd l (i : Int) = l[i] := by
  unfold rd
  rw [Int.toNat_natCast, List.getD_eq_getElem?_getD, List.getElem?_eq_getElem h]
  rfl
theorem drop_at {α : Type} (l : List α) (i : Nat) (h : i < l.length) : l.drop i = l[i] :: l.drop (i + 1) := List.drop_eq_getElem_cons h
theorem drop_end {α : Type} (l : List α) : l.drop l.length = [] := List.drop_length

/-- A loop 'for i := 0; i < len(l); i++' whose answer is a function of the state and of what is left of the list. -/
theorem ev_loop {α σ ρ : Type} (L : Nat → σ → Int → Option ρ) (l : List α) (G : σ → List α → ρ) (Inv : σ → Nat → Prop)
    (hend : ∀ s, Inv s l.length → Ev (fun k => L k s ((l.length : Nat) : Int)) (G s []))
    (hstep : ∀ s (i : Nat) (hi : i < l.length), Inv s i → (∀ s', Inv s' (i + 1) → Ev (fun k => L k s' ((i + 1 : Nat) : Int)) (G s' (l.drop (i + 1)))) → Ev (fun k => L k s (i : Int)) (G s (l[i] :: l.drop (i + 1)))) :
    ∀ s (i : Nat), i ≤ l.length → Inv s i → Ev (fun k => L k s (i : Int)) (G s (l.drop i)) := by
  have key : ∀ (d i : Nat) s, i + d = l.length → Inv s i → Ev (fun k => L k s (i : Int)) (G s (l.drop i)) := by
    intro d
    induction d with
    | zero =>
      intro i s h hI
      obtain rfl : i = l.length := by omega
      rw [drop_end]
      exact hend s hI
    | succ d ih =>
      intro i s h hI
      have hi : i < l.length := by omega
      rw [drop_at l i hi]
      exact hstep s i hi hI (fun s' h' => ih (i + 1) s' (by omega) h')
  intro s i hi hI
  exact key (l.length - i) i s (by omega) hI

theorem mx_max (a b : Int) : mx a b = max a b := by unfold mx; omega
theorem mn_min (a b : Int) : mn a b = min a b := by unfold mn; omega

/-- The same, the answer told by the state and the place. -/
theorem ev_loopN {σ ρ : Type} (L : Nat → σ → Int → Option ρ) (n : Nat) (G : σ → Nat → ρ) (Inv : σ → Nat → Prop)
    (hend : ∀ s, Inv s n → Ev (fun k => L k s (n : Int)) (G s n))
    (hstep : ∀ s (i : Nat), i < n → Inv s i → (∀ s', Inv s' (i + 1) → Ev (fun k => L k s' ((i + 1 : Nat) : Int)) (G s' (i + 1))) → Ev (fun k => L k s (i : Int)) (G s i)) :
    ∀ s (i : Nat), i ≤ n → Inv s i → Ev (fun k => L k s (i : Int)) (G s i) := by
  have key : ∀ (d i : Nat) s, i + d = n → Inv s i → Ev (fun k => L k s (i : Int)) (G s i) := by
    intro d
    induction d with
    | zero => intro i s h hI; obtain rfl : i = n := by omega
              exact hend s hI
    | succ d ih => intro i s h hI; exact hstep s i (by omega) hI (fun s' h' => ih (i + 1) s' (by omega) h')
  intro s i hi hI
  exact key (n - i) i s (by omega) hI
theorem take_at {α : Type} (l : List α) (i : Nat) (h : i < l.length) : l.take (i + 1) = l.take i ++ [l[i]] := List.take_succ_eq_append_getElem h

/-- n marks from a on. -/
def marks (a : Int) (n : Nat) : List Int := (List.range n).map fun (j : Nat) => a + (j : Int)
theorem marks_length (a : Int) (n : Nat) : (marks a n).length = n := by simp [marks]
theorem marks_at (a : Int) (n i : Nat) (h : i < (marks a n).length) : (marks a n)[i] = a + (i : Int) := by simp [marks]
theorem marks_step (a : Int) (l : List Int) (i : Nat) (hi : i < l.length) (h : l.take i = marks a i) : (l.set i (a + (i : Int))).take (i + 1) = marks a (i + 1) := by
  apply List.ext_getElem
  · simp [marks_length]; omega
  · intro j h1 h2
    rw [marks_at, List.getElem_take, List.getElem_set]
    simp at h1
    by_cases hij : i = j
    · rw [if_pos hij, hij]
    · rw [if_neg hij]
      have h3 : (l.take i)[j]'(by simp; omega) = (marks a i)[j]'(by rw [marks_length]; omega) := by simp only [h]
      rw [marks_at, List.getElem_take] at h3
      exact h3

end Go.Proofs.Ytecjbogconeilaa.Lib
