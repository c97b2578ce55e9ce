/- What draws of whole numbers are within. No condition. -/
import Derived.Test.YtecjbogconeilaaLib
namespace Go.Proofs.Ytecjbogconeilaa.Lib
open Go.RowKit Go.Proofs.YtecjbogconeilaaW.PrintWords Go.Proofs.YtecjbogconeilaaW.PrintLast Go.Proofs.YtecjbogconeilaaW.PrintMore
set_option linter.unusedVariables false
set_option linter.unusedSimpArgs false

theorem and_mask (x : Int) (m : Nat) (hm : m < 1073741824) : 0 ≤ Go.bits .and .i64 x (m : Int) ∧ Go.bits .and .i64 x (m : Int) ≤ (m : Int) := by
  unfold Go.bits
  have h : ((BitVec.ofInt IntKind.i64.bits x) &&& (BitVec.ofInt IntKind.i64.bits (m : Int))).toNat ≤ m := by
    rw [BitVec.toNat_and]
    refine Nat.le_trans Nat.and_le_right ?_
    rw [BitVec.ofInt_natCast, BitVec.toNat_ofNat]
    exact Nat.mod_le _ _
  have e : ∀ n : Nat, n ≤ m → IntKind.i64.wrap (n : Int) = (n : Int) := fun n hn => by
    rw [i64_w]
    exact w64 (n : Int) (by omega)
  show 0 ≤ IntKind.i64.wrap (((BitVec.ofInt IntKind.i64.bits x) &&& (BitVec.ofInt IntKind.i64.bits (m : Int))).toNat : Int) ∧ IntKind.i64.wrap (((BitVec.ofInt IntKind.i64.bits x) &&& (BitVec.ofInt IntKind.i64.bits (m : Int))).toNat : Int) ≤ m
  rw [e _ h]
  omega
/-- A place of a draw within its bytes. -/
def Cur (b : List Int) (i : Int) : Prop := 0 ≤ i ∧ i ≤ (b.length : Int) ∧ b.length ≤ 140737488351232
theorem tmod_range {x n : Int} (h0 : 0 ≤ x) (hn : 0 < n) : 0 ≤ Int.tmod x n ∧ Int.tmod x n < n := by
  rw [Int.tmod_eq_emod_of_nonneg h0]
  exact ⟨Int.emod_nonneg _ (by omega), Int.emod_lt_of_pos _ hn⟩
/-- A value of a run with rounds that has a property. -/
def EvP {α : Type} (g : Nat → Option α) (P : α → Prop) : Prop := ∃ r, Ev g r ∧ P r
theorem EvP.bind {α β : Type} {g : Nat → Option α} {f : Nat → α → Option β} {P : α → Prop} {Q : β → Prop} (h : EvP g P) (k : ∀ a, P a → EvP (fun n => f n a) Q) : EvP (fun n => (g n).bind (f n)) Q := by
  obtain ⟨a, ha, hp⟩ := h
  obtain ⟨b, hb, hq⟩ := k a hp
  exact ⟨b, Ev.bind ha hb, hq⟩
theorem EvP.use {α β : Type} {g : Nat → Option α} {f : Nat → α → Option β} {P : α → Prop} {r : β} (h : EvP g P) (k : ∀ a, P a → Ev (fun n => f n a) r) : Ev (fun n => (g n).bind (f n)) r := by
  obtain ⟨a, ha, hp⟩ := h
  exact Ev.bind ha (k a hp)
theorem EvP.of {α : Type} {g : Nat → Option α} {r : α} {P : α → Prop} (h : Ev g r) (p : P r) : EvP g P := ⟨r, h, p⟩
theorem EvP.now {α : Type} {r : α} {P : α → Prop} (p : P r) : EvP (fun _ => some r) P := ⟨r, Ev.now r, p⟩
theorem EvP.unfold {α : Type} {g f : Nat → Option α} {P : α → Prop} (h : ∀ k, g (k + 1) = f k) (k : EvP f P) : EvP g P := by
  obtain ⟨r, hr, hp⟩ := k
  exact ⟨r, ev_unfold h hr, hp⟩
theorem EvP.pos {α : Type} {c : Prop} [Decidable c] {a b : Nat → Option α} {P : α → Prop} (h : c) (k : EvP a P) : EvP (fun n => if c then a n else b n) P := by
  obtain ⟨r, hr, hp⟩ := k
  exact ⟨r, ev_pos h hr, hp⟩
theorem EvP.neg {α : Type} {c : Prop} [Decidable c] {a b : Nat → Option α} {P : α → Prop} (h : ¬ c) (k : EvP b P) : EvP (fun n => if c then a n else b n) P := by
  obtain ⟨r, hr, hp⟩ := k
  exact ⟨r, ev_neg h hr, hp⟩
theorem EvP.ite {α : Type} {c : Prop} [Decidable c] {a b : Nat → Option α} {P : α → Prop} (h : c → EvP a P) (k : ¬ c → EvP b P) : EvP (fun n => if c then a n else b n) P := by
  by_cases hc : c
  · exact EvP.pos hc (h hc)
  · exact EvP.neg hc (k hc)
theorem EvP.mono {α : Type} {g : Nat → Option α} {P Q : α → Prop} (h : EvP g P) (k : ∀ a, P a → Q a) : EvP g Q := by
  obtain ⟨r, hr, hp⟩ := h
  exact ⟨r, hr, k r hp⟩
/-- The same of what has no rounds. -/
def OkP {α : Type} (g : Option α) (P : α → Prop) : Prop := ∃ r, g = some r ∧ P r
theorem OkP.ev {α : Type} {g : Option α} {P : α → Prop} (h : OkP g P) : EvP (fun _ => g) P := by
  obtain ⟨r, hr, hp⟩ := h
  exact ⟨r, hr ▸ Ev.now r, hp⟩
theorem OkP.bind {α β : Type} {g : Option α} {f : α → Option β} {P : α → Prop} {Q : β → Prop} (h : OkP g P) (k : ∀ a, P a → OkP (f a) Q) : OkP (g.bind f) Q := by
  obtain ⟨a, rfl, hp⟩ := h
  exact k a hp
theorem OkP.now {α : Type} {r : α} {P : α → Prop} (p : P r) : OkP (some r) P := ⟨r, rfl, p⟩
theorem OkP.pos {α : Type} {c : Prop} [Decidable c] {a b : Option α} {P : α → Prop} (h : c) (k : OkP a P) : OkP (if c then a else b) P := by rw [if_pos h]; exact k
theorem OkP.neg {α : Type} {c : Prop} [Decidable c] {a b : Option α} {P : α → Prop} (h : ¬ c) (k : OkP b P) : OkP (if c then a else b) P := by rw [if_neg h]; exact k
theorem OkP.ite {α : Type} {c : Prop} [Decidable c] {a b : Option α} {P : α → Prop} (h : c → OkP a P) (k : ¬ c → OkP b P) : OkP (if c then a else b) P := by
  by_cases hc : c
  · exact OkP.pos hc (h hc)
  · exact OkP.neg hc (k hc)
theorem OkP.mono {α : Type} {g : Option α} {P Q : α → Prop} (h : OkP g P) (k : ∀ a, P a → Q a) : OkP g Q := by
  obtain ⟨r, hr, hp⟩ := h
  exact ⟨r, hr, k r hp⟩
end Go.Proofs.Ytecjbogconeilaa.Lib
