/- What is left over, as a plain function of the melds' list. No condition. -/
import Derived.Test.YtecjbogconeilaaMeldRun
namespace Go.Proofs.Ytecjbogconeilaa.Lib
open Go.RowKit Go.Proofs.YtecjbogconeilaaW.PrintWords
set_option linter.unusedVariables false
set_option linter.unusedSimpArgs false

def valW (s : Int) (l : List Int) : Int := l.foldl (fun a x => wrap64 (a + valueOf x)) s
def minusF (l m : List Int) : List Int := m.foldl (fun s c => s.filter (fun y => decide (y ≠ c))) l
def wholeF : List Int → List Int → Bool
  | _, [] => true
  | l, c :: m => hasCard l c && wholeF (l.filter (fun y => decide (y ≠ c))) m
def leastF : List (List Int) → List Int → Int → Int
  | [], _, o => o
  | m :: r, l, o => leastF r l (if wholeF l m = true then min o (leastF r (minusF l m) (valW 0 (minusF l m))) else o)
theorem minus_le (l : List Int) : ∀ m : List Int, (minusF l m).length ≤ l.length := by
  intro m
  induction m generalizing l with
  | nil => exact Nat.le_refl _
  | cons c m ih => exact Nat.le_trans (ih _) (List.length_filter_le _ _)
theorem minus_nodup {l : List Int} (h : l.Nodup) : ∀ m : List Int, (minusF l m).Nodup := by
  intro m
  induction m generalizing l with
  | nil => exact h
  | cons c m ih => exact ih (h.filter _)
theorem filter_none {l : List Int} {c : Int} (h : c ∉ l) : l.filter (fun y => decide (y ≠ c)) = l := List.filter_eq_self.2 (fun y hy => decide_eq_true (fun e => h (e ▸ hy)))
theorem minus_ge : ∀ (m : List Int) {l : List Int}, l.Nodup → l.length ≤ (minusF l m).length + m.length
  | [], l, _ => Nat.le_refl _
  | c :: m, l, h => by
    have ih := minus_ge m (h.filter (fun y => decide (y ≠ c)))
    show l.length ≤ (minusF (l.filter (fun y => decide (y ≠ c))) m).length + (m.length + 1)
    by_cases hc : c ∈ l
    · have := filter_one l c h hc
      omega
    · rw [filter_none hc] at ih ⊢
      omega
theorem whole_len : ∀ (m : List Int) {l : List Int}, l.Nodup → m.Nodup → (wholeF l m = true ↔ (minusF l m).length + m.length = l.length)
  | [], l, _, _ => ⟨fun _ => rfl, fun _ => rfl⟩
  | c :: m, l, h, hm => by
    have hm2 := List.nodup_cons.1 hm
    have ih := whole_len m (h.filter (fun y => decide (y ≠ c))) hm2.2
    show (hasCard l c && wholeF (l.filter (fun y => decide (y ≠ c))) m) = true ↔ (minusF (l.filter (fun y => decide (y ≠ c))) m).length + (m.length + 1) = l.length
    rw [Bool.and_eq_true, ih]
    unfold hasCard
    rw [decide_eq_true_eq]
    by_cases hc : c ∈ l
    · have := filter_one l c h hc
      constructor
      · rintro ⟨_, h2⟩; omega
      · intro h2; exact ⟨hc, by omega⟩
    · have := minus_ge m h
      rw [filter_none hc]
      constructor
      · rintro ⟨h1, _⟩; exact absurd h1 hc
      · intro h2; omega
def leftOver (l : List Int) : Int := if okM l = true then leastF (meldsIn l) l (valW 0 l) else -1
end Go.Proofs.Ytecjbogconeilaa.Lib
