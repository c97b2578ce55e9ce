/- In the seat Ytecjbogconeilaa: what the functions compute that the law reaches, and that the machine's calls do just that; no condition beyond each contract's own. -/
import Derived.Test.YtecjbogconeilaaQFnNotationsx0
import Derived.Test.YtecjbogconeilaaQFnNotationsx3
namespace Go.Proofs.Ytecjbogconeilaa.QFnNotations
open Go.RowKit Go.Proofs.YtecjbogconeilaaW.PrintWords Go.Proofs.YtecjbogconeilaaW.PrintLast Go.Proofs.YtecjbogconeilaaW.PrintMore
attribute [local go_sem] max2_int min2_int max_two min_two max_three min_three max_four min_four   -- for this text's walks alone
set_option linter.unusedVariables false
set_option linter.unusedSimpArgs false

/-- A state of type 65 at block g of W; what its slices lead to came in by w0. -/
def IsS65 (w0 W : World) (g : Nat) (f0 : ByteArray) (f1 : Int) (f2 : List Int) : Prop := ∃ A2 c2, W.heap[g]? = some (.cells #[.string f0, .int .i64 f1, .slice A2 f2.length c2] 65 (0, 0)) ∧ w0.heap.size ≤ g ∧ Kd.C (Kd.int .i64) w0 A2 f2.length f2
theorem IsS65.grown {w0 W : World} {g : Nat} {f0 : ByteArray} {f1 : Int} {f2 : List Int} {W1 : World} {row : Option Nat} (h : IsS65 w0 W g f0 f1 f2) (hw : W.grownBy W1 row) (hne : some g ≠ row) : IsS65 w0 W1 g f0 f1 f2 := by
  obtain ⟨A2, c2, hb, hg, hr2⟩ := h
  exact ⟨A2, c2, blk_grown hb hw hne, hg, hr2⟩
theorem IsS65.own_neN {w0 W : World} {g : Nat} {f0 : ByteArray} {f1 : Int} {f2 : List Int} {α : Type} {d : Kd α} {e : Nat} {base : Nat} {ok : Nat → Prop} {v : Value} {xs : List α} (h : IsS65 w0 W g f0 f1 f2) (ho : Kd.N d e W base ok v xs) (ht : e ≠ 65) : some g ≠ v.ownBlock := by
  obtain ⟨A2, c2, hb, hg, hr2⟩ := h
  exact Kd.N_ne ho hb ht
theorem IsS65.fresh {w0 W : World} {g : Nat} {f0 : ByteArray} {f1 : Int} {f2 : List Int} (h : IsS65 w0 W g f0 f1 f2) : ∀ k, W.heap.size ≤ k → k ≠ g := by
  obtain ⟨A2, c2, hb, hg, hr2⟩ := h
  exact Kd.freshB hb
theorem IsS65.kept {w0 W : World} {g : Nat} {f0 : ByteArray} {f1 : Int} {f2 : List Int} {W1 : World} {S : Nat → Prop} (h : IsS65 w0 W g f0 f1 f2) (hk : Kept W W1 S) (hne : ¬ S g) : IsS65 w0 W1 g f0 f1 f2 := by
  obtain ⟨A2, c2, hb, hg, hr2⟩ := h
  exact ⟨A2, c2, blk_kept hb hk hne, hg, hr2⟩
theorem IsS65.below {w0 W : World} {g : Nat} {f0 : ByteArray} {f1 : Int} {f2 : List Int} {W1 : World} (h : IsS65 w0 W g f0 f1 f2) (hw : Below W.heap.size W W1) : IsS65 w0 W1 g f0 f1 f2 := h.grown (grown_of_below hw none) (by simp)
theorem IsS65.alloc {w0 W : World} {g : Nat} {f0 : ByteArray} {f1 : Int} {f2 : List Int} (h : IsS65 w0 W g f0 f1 f2) (o : Obj) : IsS65 w0 (W.alloc o) g f0 f1 f2 := h.below (below_alloc (Below.refl _ _) o)
theorem IsS65.drewN {w0 W : World} {g : Nat} {f0 : ByteArray} {f1 : Int} {f2 : List Int} (h : IsS65 w0 W g f0 f1 f2) (m : Nat) : IsS65 w0 (W.drewN m) g f0 f1 f2 := h
theorem IsS65.drew {w0 W : World} {g : Nat} {f0 : ByteArray} {f1 : Int} {f2 : List Int} (h : IsS65 w0 W g f0 f1 f2) : IsS65 w0 W.drew g f0 f1 f2 := h
theorem IsS65.at_ {w0 W : World} {g : Nat} {f0 : ByteArray} {f1 : Int} {f2 : List Int} {w' : World} {m : Nat} (hq : W.drewN m = w') (h : IsS65 w0 W g f0 f1 f2) : IsS65 w0 w' g f0 f1 f2 := by subst hq; exact IsS65.drewN h m
theorem IsS65.apart {w0 W : World} {g : Nat} {f0 : ByteArray} {f1 : Int} {f2 : List Int} {α : Type} {d : Kd α} {e : Nat} {base : Nat} {ok : Nat → Prop} {v : Value} {xs : List α} (h : IsS65 w0 W g f0 f1 f2) (ho : d.R e W base ok v xs) (ht : ∀ q, q ∈ e :: d.E → q ≠ 65) : d.R e W base (fun k => ok k ∧ k ≠ g) v xs := by
  obtain ⟨A2, c2, hb, hg, hr2⟩ := h
  exact Kd.R_types ho hb ht
theorem IsS65.own_ne {w0 W : World} {g : Nat} {f0 : ByteArray} {f1 : Int} {f2 : List Int} {α : Type} {d : Kd α} {e : Nat} {base : Nat} {ok : Nat → Prop} {v : Value} {xs : List α} (h : IsS65 w0 W g f0 f1 f2) (ho : d.R e W base ok v xs) (ht : e ≠ 65) : some g ≠ v.ownBlock := by
  obtain ⟨A2, c2, hb, hg, hr2⟩ := h
  exact Kd.R_ne ho hb ht
theorem IsS65.apartQ {w0 W : World} {g : Nat} {f0 : ByteArray} {f1 : Int} {f2 : List Int} {α : Type} {d : Kd α} {e : Nat} {base : Nat} {ok : Nat → Prop} {v : Value} {xs : List α} (h : IsS65 w0 W g f0 f1 f2) (ho : d.Q e W base ok v xs) (ht : ∀ q, q ∈ e :: d.E → q ≠ 65) : d.Q e W base (fun k => ok k ∧ k ≠ g) v xs := by
  obtain ⟨A2, c2, hb, hg, hr2⟩ := h
  exact Kd.Q_types ho hb ht
theorem IsS65.own_neQ {w0 W : World} {g : Nat} {f0 : ByteArray} {f1 : Int} {f2 : List Int} {α : Type} {d : Kd α} {e : Nat} {base : Nat} {ok : Nat → Prop} {v : Value} {xs : List α} (h : IsS65 w0 W g f0 f1 f2) (ho : d.Q e W base ok v xs) (ht : e ≠ 65) : some g ≠ v.ownBlock := by
  obtain ⟨A2, c2, hb, hg, hr2⟩ := h
  exact Kd.Q_ne ho hb ht
theorem IsS65.apartS {w0 W : World} {g : Nat} {f0 : ByteArray} {f1 : Int} {f2 : List Int} {α : Type} {d : Kd α} {e : Nat} {base : Nat} {ok : Nat → Prop} {v : Value} {xs : List α} (h : IsS65 w0 W g f0 f1 f2) (ho : d.S e W base ok v xs) (ht : ∀ q, q ∈ e :: d.E → q ≠ 65) : d.S e W base (fun k => ok k ∧ k ≠ g) v xs := by
  obtain ⟨A2, c2, hb, hg, hr2⟩ := h
  exact Kd.S_types ho hb ht
theorem IsS65.own_neS {w0 W : World} {g : Nat} {f0 : ByteArray} {f1 : Int} {f2 : List Int} {α : Type} {d : Kd α} {e : Nat} {base : Nat} {ok : Nat → Prop} {v : Value} {xs : List α} (h : IsS65 w0 W g f0 f1 f2) (ho : d.S e W base ok v xs) (ht : e ≠ 65) : some g ≠ v.ownBlock := by
  obtain ⟨A2, c2, hb, hg, hr2⟩ := h
  exact Kd.S_ne ho hb ht
theorem IsS65.lt {w0 W : World} {g : Nat} {f0 : ByteArray} {f1 : Int} {f2 : List Int} (h : IsS65 w0 W g f0 f1 f2) : g < W.heap.size := by
  obtain ⟨A2, c2, hb, hg, hr2⟩ := h
  exact blk_lt hb
theorem IsS65.ge {w0 W : World} {g : Nat} {f0 : ByteArray} {f1 : Int} {f2 : List Int} (h : IsS65 w0 W g f0 f1 f2) : w0.heap.size ≤ g := by
  obtain ⟨A2, c2, hb, hg, hr2⟩ := h
  exact hg
theorem IsS65.ne_blk {w0 W : World} {g : Nat} {f0 : ByteArray} {f1 : Int} {f2 : List Int} {a : Nat} {cs : Array Value} {t : TypeId} {fr : Nat × Nat} (h : IsS65 w0 W g f0 f1 f2) (hb2 : W.heap[a]? = some (.cells cs t fr)) (ht : t ≠ 65) : g ≠ a := by
  obtain ⟨A2, c2, hb, hg, hr2⟩ := h
  rintro rfl
  rw [hb] at hb2
  injection hb2 with hb2
  injection hb2 with _ ht2
  exact ht ht2.symm
theorem IsS65.far {w0 W : World} {g : Nat} {f0 : ByteArray} {f1 : Int} {f2 : List Int} {p : Addr} (h : IsS65 w0 W g f0 f1 f2) (hne : g ≠ p.block) (u : Value) : IsS65 w0 (W.setCell p u) g f0 f1 f2 := by
  obtain ⟨A2, c2, hb, hg, hr2⟩ := h
  exact ⟨A2, c2, blk_far hb hne u, hg, hr2⟩
theorem cellS65_0 {W : World} {g : Nat} {A2 : Option Addr} {c2 : Nat} {f0 : ByteArray} {f1 : Int} {f2 : List Int} (h : W.heap[g]? = some (.cells #[.string f0, .int .i64 f1, .slice A2 f2.length c2] 65 (0, 0))) : W.cell? ⟨g, 0, none⟩ = some (.string f0) := (blk_cell h 0).trans rfl
theorem IsS65.set_0 {w0 W : World} {g : Nat} {f0 : ByteArray} {f1 : Int} {f2 : List Int} (h : IsS65 w0 W g f0 f1 f2) (x : ByteArray) : IsS65 w0 (W.setCell ⟨g, 0, none⟩ (.string x)) g x f1 f2 := by
  obtain ⟨A2, c2, hb, hg, hr2⟩ := h
  exact ⟨A2, c2, by simpa using blk_set hb 0 (.string x), hg, hr2⟩
theorem cellS65_1 {W : World} {g : Nat} {A2 : Option Addr} {c2 : Nat} {f0 : ByteArray} {f1 : Int} {f2 : List Int} (h : W.heap[g]? = some (.cells #[.string f0, .int .i64 f1, .slice A2 f2.length c2] 65 (0, 0))) : W.cell? ⟨g, 1, none⟩ = some (.int .i64 f1) := (blk_cell h 1).trans rfl
theorem IsS65.set_1 {w0 W : World} {g : Nat} {f0 : ByteArray} {f1 : Int} {f2 : List Int} (h : IsS65 w0 W g f0 f1 f2) (x : Int) : IsS65 w0 (W.setCell ⟨g, 1, none⟩ (.int .i64 x)) g f0 x f2 := by
  obtain ⟨A2, c2, hb, hg, hr2⟩ := h
  exact ⟨A2, c2, by simpa using blk_set hb 1 (.int .i64 x), hg, hr2⟩
theorem cellS65_2 {W : World} {g : Nat} {A2 : Option Addr} {c2 : Nat} {f0 : ByteArray} {f1 : Int} {f2 : List Int} (h : W.heap[g]? = some (.cells #[.string f0, .int .i64 f1, .slice A2 f2.length c2] 65 (0, 0))) : W.cell? ⟨g, 2, none⟩ = some (.slice A2 f2.length c2) := (blk_cell h 2).trans rfl
theorem IsS65.new (w0 W : World) (A2 : Option Addr) (c2 : Nat) (f0 : ByteArray) (f1 : Int) (f2 : List Int) (hB : Below w0.heap.size w0 W) (hr2 : Kd.C (Kd.int .i64) w0 A2 f2.length f2) : IsS65 w0 (W.alloc (.cells #[.string f0, .int .i64 f1, .slice A2 f2.length c2] 65)) W.heap.size f0 f1 f2 := ⟨A2, c2, by simpa using heap_alloc_new W _, hB.size, hr2⟩

/-! ### impl_notation_next: function 142 -/
def impl_notation_next.f (s0_0 : ByteArray) (s0_1 : Int) (s0_2 : List Int) : Option (Int × ByteArray × Int) := if s0_1 < (s0_0.size : Int) then (if 0 ≤ s0_1 then (some (bt s0_0 s0_1, s0_0, s0_1)) else (none)) else (some (0, s0_0, s0_1))
set_option maxHeartbeats 8000000 in
set_option maxRecDepth 100000 in
theorem impl_notation_next.calls (g : Nat) (s0_0 : ByteArray) (s0_1 : Int) (s0_2 : List Int) (r1 : Int) (r2 : ByteArray) (r3 : Int) (w0 w : World) (hI : IsS65 w0 w g s0_0 s0_1 s0_2) (hB : Below w0.heap.size w0 w) (h : impl_notation_next.f s0_0 s0_1 s0_2 = some (r1, r2, r3)) :
  Calls Try.prog 142 #[.pointer (some ⟨g, 0, none⟩)] w fun e w' => e = .returned (.int .u8 r1) ∧ IsS65 w0 w' g r2 r3 s0_2 ∧ Below w0.heap.size w0 w' ∧ KeepBut w w' g none := by
 have HI0 := Aside0.mk hI
 have HK := Aside0.mk (KeepBut.refl w g none)
 have HL := Aside0.mk hB.size
 clear hI
 have HW0 := Aside0.mk hB.size
 have HB := Aside0.mk hB
 clear hB
 have H : (if s0_1 < (s0_0.size : Int) then (if 0 ≤ s0_1 then (some (bt s0_0 s0_1, s0_0, s0_1)) else (none)) else (some (0, s0_0, s0_1))) = some (r1, r2, r3) := h
 clear h
 by_cases c2 : s0_1 < (s0_0.size : Int)
 ·rw [if_pos c2] at H
  have c2b0 : decide (s0_1 < (s0_0.size : Int)) = true := decide_eq_true c2
  clear c2
  by_cases c3 : 0 ≤ s0_1
  ·rw [if_pos c3] at H
   have c3b0 : decide (0 ≤ s0_1) = true := decide_eq_true c3
   clear c3
   simp only [Option.some.injEq, Prod.mk.injEq] at H
   obtain ⟨rfl, rfl, rfl⟩ := H
   obtain ⟨ASz5_2, cSz5_2, HGz5, hgz5, HSz5_2⟩ := HI0.out
   have hcz5_0 := cellS65_0 HGz5
   have hcz5_1 := cellS65_1 HGz5
   have hcz5_2 := cellS65_2 HGz5
   have hfz5_0 := blk_frozen HGz5 0
   have hfz5_1 := blk_frozen HGz5 1
   clear HGz5 hgz5
   have p4 : 0 ≤ (s0_1 : Int) := of_decide_eq_true (by first | (with_reducible assumption) | assumption)
   have q4 : s0_1 < (s0_0.size : Int) := of_decide_eq_true (by first | (with_reducible assumption) | assumption)
   have hx4 := bt_at s0_0 s0_1
   replace p4 := eq_true p4
   replace q4 := eq_true q4
   go_enter Try.func142, Try.ntmps142
   go_wp2
   repeat (go_quiet (fail); try go_wp2)
   go_ret
   exact ⟨by first | rfl | (simp [errW_none, errW_some] <;> rfl) | (simp [*, errW_none, errW_some] <;> rfl), by repeat (first | (with_reducible first | exact HI0.out | apply IsS65.alloc | apply IsS65.drewN | apply IsS65.drew | apply IsS65.set_0 | apply IsS65.set_1) | exact HI0.out), by repeat (first | (with_reducible first | exact HB.out | apply below_alloc | apply pw_below_drewN | apply below_drew1 | refine below_set ?_ (IsS65.ge HI0.out)) | exact HB.out), by repeat (first | (with_reducible first | exact HK.out | apply KeepBut.set_ | apply keep_drewN | apply keep_drew | apply keep_alloc) | exact HK.out)⟩
  ·rw [if_neg c3] at H
   exact absurd H (by simp)
 ·rw [if_neg c2] at H
  have c2b0 : decide (s0_1 < (s0_0.size : Int)) = false := decide_eq_false c2
  clear c2
  simp only [Option.some.injEq, Prod.mk.injEq] at H
  obtain ⟨rfl, rfl, rfl⟩ := H
  obtain ⟨ASz6_2, cSz6_2, HGz6, hgz6, HSz6_2⟩ := HI0.out
  have hcz6_0 := cellS65_0 HGz6
  have hcz6_1 := cellS65_1 HGz6
  have hcz6_2 := cellS65_2 HGz6
  have hfz6_0 := blk_frozen HGz6 0
  have hfz6_1 := blk_frozen HGz6 1
  clear HGz6 hgz6
  go_enter Try.func142, Try.ntmps142
  go_wp2
  repeat (go_quiet (fail); try go_wp2)
  go_ret
  exact ⟨by first | rfl | (simp [errW_none, errW_some] <;> rfl) | (simp [*, errW_none, errW_some] <;> rfl), by repeat (first | (with_reducible first | exact HI0.out | apply IsS65.alloc | apply IsS65.drewN | apply IsS65.drew | apply IsS65.set_0 | apply IsS65.set_1) | exact HI0.out), by repeat (first | (with_reducible first | exact HB.out | apply below_alloc | apply pw_below_drewN | apply below_drew1 | refine below_set ?_ (IsS65.ge HI0.out)) | exact HB.out), by repeat (first | (with_reducible first | exact HK.out | apply KeepBut.set_ | apply keep_drewN | apply keep_drew | apply keep_alloc) | exact HK.out)⟩

/-! ### impl_notation_pair: function 143 -/
-- its contract stands beside read's

-- NOT PRINTED: function 175 (bytealg_IndexByteString)

-- NOT PRINTED: function 167 (stringslite_IndexByte)

/-! ### strings_IndexByte: function 144 -/
def strings_IndexByte.f (a0 : ByteArray) (a1 : Int) : Option Int := some (Go.Lib.indexByte a0.data.toList a1.toNat.toUInt8)
theorem strings_IndexByte.calls (a0 : ByteArray) (a1 : Int) (r : Int) (w : World) (h : strings_IndexByte.f a0 a1 = some r) :
  Calls Try.prog 144 #[.string a0, .int .u8 a1] w fun e w' => e = .returned (.int .i64 r) ∧ Drawn0 w w' := by
 obtain rfl := Option.some.inj h
 refine (Try.strings_IndexByte a0 a1 w).mono ?_
 rintro e w' ⟨he, rfl⟩
 exact ⟨he, Drawn0.refl _⟩

/-! ### impl_notation_read: function 88 -/
def impl_notation_read.next (s : ByteArray) (i : Int) : Option Int := if i < (s.size : Int) then (if 0 ≤ i then (some (bt s i)) else (none)) else (some 0)
mutual
def impl_notation_read.f : Nat → ByteArray → Int → List Int → Option (Bool × Int × List Int)
  | 0, _, _, _ => none
  | k + 1, s, i, xs => (impl_notation_read.next s i).bind fun c => (if c = 0 then (some (false, wrap64 (i + 1), xs)) else (if c = 33 then ((impl_notation_read.f k s (wrap64 (i + 1)) xs).bind fun b => (if b.1 = true then (if b.2.2.length < 17592186044416 then (some (true, b.2.1, b.2.2 ++ [-1])) else (none)) else (some (false, b.2.1, b.2.2)))) else (if c = 40 then (impl_notation_read.pair k s (wrap64 (i + 1)) xs) else (if c = 114 then (if xs.length < 17592186044416 then (some (true, wrap64 (i + 1), xs ++ [400])) else (none)) else ((strings_IndexByte.f (⟨#[99, 100, 104, 115]⟩ : ByteArray) c).bind fun t => (if t ≥ 0 then (if xs.length < 17592186044416 then (some (true, wrap64 (i + 1), xs ++ [wrap64 (100 + t)])) else (none)) else ((strings_IndexByte.f (⟨#[50, 51, 52, 53, 54, 55, 56, 57, 84, 74, 81, 75, 65]⟩ : ByteArray) c).bind fun r => (if r < 0 then (some (false, wrap64 (i + 1), xs)) else ((impl_notation_read.next s (wrap64 (i + 1))).bind fun d => (if d = 43 then (if xs.length < 17592186044416 then (some (true, wrap64 ((wrap64 (i + 1)) + 1), xs ++ [wrap64 (300 + r)])) else (none)) else (if xs.length < 17592186044416 then (some (true, wrap64 (i + 1), xs ++ [wrap64 (200 + r)])) else (none)))))))))))) 
def impl_notation_read.pair : Nat → ByteArray → Int → List Int → Option (Bool × Int × List Int)
  | 0, _, _, _ => none
  | k + 1, s, i, xs => (impl_notation_read.f k s i xs).bind fun b => (if b.1 = true then ((impl_notation_read.next s b.2.1).bind fun c => (if c = 38 then (impl_notation_read.tail k s b.2.1 b.2.2 (-2)) else (if c = 124 then (impl_notation_read.tail k s b.2.1 b.2.2 (-3)) else (some (false, b.2.1, b.2.2))))) else (some (false, b.2.1, b.2.2)))
def impl_notation_read.tail : Nat → ByteArray → Int → List Int → Int → Option (Bool × Int × List Int)
  | 0, _, _, _, _ => none
  | k + 1, s, i, xs, z => (impl_notation_read.f k s (wrap64 (i + 1)) xs).bind fun b => (if b.1 = true then ((impl_notation_read.next s b.2.1).bind fun d => (if d = 41 then (if b.2.2.length < 17592186044416 then (some (true, wrap64 (b.2.1 + 1), b.2.2 ++ [z])) else (none)) else (some (false, b.2.1, b.2.2)))) else (some (false, b.2.1, b.2.2)))
end
theorem impl_notation_read.mono_l : ∀ k, (∀ y0 y1 y2, LeO (impl_notation_read.f k y0 y1 y2) (impl_notation_read.f (k + 1) y0 y1 y2)) ∧ (∀ y0 y1 y2, LeO (impl_notation_read.pair k y0 y1 y2) (impl_notation_read.pair (k + 1) y0 y1 y2)) ∧ (∀ y0 y1 y2 y3, LeO (impl_notation_read.tail k y0 y1 y2 y3) (impl_notation_read.tail (k + 1) y0 y1 y2 y3))
  | 0 => ⟨fun _ _ _ r h => by simp [impl_notation_read.f] at h, fun _ _ _ r h => by simp [impl_notation_read.pair] at h, fun _ _ _ _ r h => by simp [impl_notation_read.tail] at h⟩
  | k + 1 => by
    obtain ⟨ih0, ih1, ih2⟩ := impl_notation_read.mono_l k
    refine ⟨?_, ?_, ?_⟩
    · intro y0 y1 y2
      unfold impl_notation_read.f
      repeat' first
      | (with_reducible exact ih0 _ _ _)
      | (with_reducible exact ih1 _ _ _)
      | (with_reducible exact ih2 _ _ _ _)
      | (with_reducible exact LeO.refl _)
      | (with_reducible exact LeO.none _)
      | (with_reducible refine LeO.ite ?_ ?_)
      | (with_reducible refine LeO.bind ?_ (fun _ => ?_))
    · intro y0 y1 y2
      unfold impl_notation_read.pair
      repeat' first
      | (with_reducible exact ih0 _ _ _)
      | (with_reducible exact ih1 _ _ _)
      | (with_reducible exact ih2 _ _ _ _)
      | (with_reducible exact LeO.refl _)
      | (with_reducible exact LeO.none _)
      | (with_reducible refine LeO.ite ?_ ?_)
      | (with_reducible refine LeO.bind ?_ (fun _ => ?_))
    · intro y0 y1 y2 y3
      unfold impl_notation_read.tail
      repeat' first
      | (with_reducible exact ih0 _ _ _)
      | (with_reducible exact ih1 _ _ _)
      | (with_reducible exact ih2 _ _ _ _)
      | (with_reducible exact LeO.refl _)
      | (with_reducible exact LeO.none _)
      | (with_reducible refine LeO.ite ?_ ?_)
      | (with_reducible refine LeO.bind ?_ (fun _ => ?_))
theorem impl_notation_read.mono : ∀ a0 a1 a2 k, LeO (impl_notation_read.f k a0 a1 a2) (impl_notation_read.f (k + 1) a0 a1 a2) := fun a0 a1 a2 k => (impl_notation_read.mono_l k).1 a0 a1 a2
set_option maxHeartbeats 8000000 in
set_option maxRecDepth 100000 in
theorem impl_notation_read.next_calls (g : Nat) (s : ByteArray) (i : Int) (v : Value) (xs : List Int) (c : Int) (w0 w : World) (hI : Go.Proofs.Ytecjbogconeilaa.Note.IsN 3 65 w0 w g s i v xs) (hB : Below w0.heap.size w0 w) (h : impl_notation_read.next s i = some c) :
    Calls Try.prog 142 #[.pointer (some ⟨g, 0, none⟩)] w fun e w' => e = .returned (.int .u8 c) ∧ Go.Proofs.Ytecjbogconeilaa.Note.IsN 3 65 w0 w' g s i v xs ∧ Below w0.heap.size w0 w' := by
  have HI := Aside0.mk hI
  have HB := Aside0.mk hB
  clear hI hB
  unfold impl_notation_read.next at h
  have hcz0_0 := Go.Proofs.Ytecjbogconeilaa.Note.IsN.c0 HI.out
  have hcz0_1 := Go.Proofs.Ytecjbogconeilaa.Note.IsN.c1 HI.out
  have hcz0_2 := Go.Proofs.Ytecjbogconeilaa.Note.IsN.c2 HI.out
  have hfz0_1 := Go.Proofs.Ytecjbogconeilaa.Note.IsN.fz HI.out 1
  have hfz0_2 := Go.Proofs.Ytecjbogconeilaa.Note.IsN.fz HI.out 2
  by_cases c2 : i < (s.size : Int)
  · rw [if_pos c2] at h
    have c2b0 : decide (i < (s.size : Int)) = true := decide_eq_true c2
    by_cases c3 : 0 ≤ i
    · rw [if_pos c3] at h
      obtain rfl := Option.some.inj h
      have hx4 := bt_at s i
      have p4 := eq_true c3
      have q4 := eq_true c2
      have c3b0 : decide (0 ≤ i) = true := decide_eq_true c3
      clear c2 c3 h
      go_enter Try.func142, Try.ntmps142
      go_wp2
      repeat (go_quiet (fail); try go_wp2)
      go_ret
      exact ⟨by first | rfl | (simp [*]; done), by (repeat (first | (with_reducible first | exact HI.out | apply Go.Proofs.Ytecjbogconeilaa.Note.IsN.drewN | apply Go.Proofs.Ytecjbogconeilaa.Note.IsN.drew | apply Go.Proofs.Ytecjbogconeilaa.Note.IsN.set_1) | exact HI.out)); done, by repeat (first | (with_reducible first | exact HB.out | apply below_alloc | apply pw_below_drewN | apply below_drew1 | refine below_set ?_ (Go.Proofs.Ytecjbogconeilaa.Note.IsN.ge HI.out)) | exact HB.out)⟩
    · rw [if_neg c3] at h
      exact absurd h (by simp)
  · rw [if_neg c2] at h
    have c2b0 : decide (i < (s.size : Int)) = false := decide_eq_false c2
    obtain rfl := Option.some.inj h
    clear c2 h
    go_enter Try.func142, Try.ntmps142
    go_wp2
    repeat (go_quiet (fail); try go_wp2)
    go_ret
    exact ⟨by first | rfl | (simp [*]; done), by (repeat (first | (with_reducible first | exact HI.out | apply Go.Proofs.Ytecjbogconeilaa.Note.IsN.drewN | apply Go.Proofs.Ytecjbogconeilaa.Note.IsN.drew | apply Go.Proofs.Ytecjbogconeilaa.Note.IsN.set_1) | exact HI.out)); done, by repeat (first | (with_reducible first | exact HB.out | apply below_alloc | apply pw_below_drewN | apply below_drew1 | refine below_set ?_ (Go.Proofs.Ytecjbogconeilaa.Note.IsN.ge HI.out)) | exact HB.out)⟩
set_option maxHeartbeats 8000000 in
set_option maxRecDepth 100000 in
theorem impl_notation_read.read_step (k : Nat) (IHR : Aside0 (∀ (g : Nat) (s : ByteArray) (i : Int) (v : Value) (xs : List Int) (r : Bool) (i' : Int) (xs' : List Int) (w0 w : World), Go.Proofs.Ytecjbogconeilaa.Note.IsN 3 65 w0 w g s i v xs → Below w0.heap.size w0 w → impl_notation_read.f k s i xs = some (r, i', xs') → Calls Try.prog 88 #[.pointer (some ⟨g, 0, none⟩)] w fun e w' => ∃ v' : Value, e = .returned (.bool r) ∧ Go.Proofs.Ytecjbogconeilaa.Note.IsN 3 65 w0 w' g s i' v' xs' ∧ Below w0.heap.size w0 w')) (IHP : Aside0 (∀ (g : Nat) (s : ByteArray) (i : Int) (v : Value) (xs : List Int) (r : Bool) (i' : Int) (xs' : List Int) (w0 w : World), Go.Proofs.Ytecjbogconeilaa.Note.IsN 3 65 w0 w g s i v xs → Below w0.heap.size w0 w → impl_notation_read.pair k s i xs = some (r, i', xs') → Calls Try.prog 143 #[.pointer (some ⟨g, 0, none⟩)] w fun e w' => ∃ v' : Value, e = .returned (.bool r) ∧ Go.Proofs.Ytecjbogconeilaa.Note.IsN 3 65 w0 w' g s i' v' xs' ∧ Below w0.heap.size w0 w')) :
    ∀ (g : Nat) (s : ByteArray) (i : Int) (v : Value) (xs : List Int) (r : Bool) (i' : Int) (xs' : List Int) (w0 w : World), Go.Proofs.Ytecjbogconeilaa.Note.IsN 3 65 w0 w g s i v xs → Below w0.heap.size w0 w → impl_notation_read.f (k + 1) s i xs = some (r, i', xs') → Calls Try.prog 88 #[.pointer (some ⟨g, 0, none⟩)] w fun e w' => ∃ v' : Value, e = .returned (.bool r) ∧ Go.Proofs.Ytecjbogconeilaa.Note.IsN 3 65 w0 w' g s i' v' xs' ∧ Below w0.heap.size w0 w' := by
  intro g s i v xs r i' xs' w0 w hI hB H
  obtain ⟨Av, cv, rfl⟩ := Kd.R_slice (Go.Proofs.Ytecjbogconeilaa.Note.IsN.row hI)
  have HI := Aside0.mk hI
  have HB := Aside0.mk hB
  clear hI hB
  simp only [impl_notation_read.f] at H
  have hcz0_0 := Go.Proofs.Ytecjbogconeilaa.Note.IsN.c0 HI.out
  have hcz0_1 := Go.Proofs.Ytecjbogconeilaa.Note.IsN.c1 HI.out
  have hcz0_2 := Go.Proofs.Ytecjbogconeilaa.Note.IsN.c2 HI.out
  have hfz0_1 := Go.Proofs.Ytecjbogconeilaa.Note.IsN.fz HI.out 1
  have hfz0_2 := Go.Proofs.Ytecjbogconeilaa.Note.IsN.fz HI.out 2
  replace H := Option.bind_eq_some_iff.mp H
  obtain ⟨c, a_, H⟩ := H
  have A1 := Aside0.mk a_
  clear a_
  try simp only at H
  by_cases k0 : c = 0
  · subst k0
    rw [if_pos rfl] at H
    simp only [Option.some.injEq, Prod.mk.injEq] at H
    obtain ⟨rfl, rfl, rfl⟩ := H
    go_enter Try.func88, Try.ntmps88
    go_wp2_with (first | (go_at_call 142; (with_reducible refine (impl_notation_read.next_calls g s i (.slice Av xs.length cv) xs 0 w0 _ (by (repeat (first | (with_reducible first | exact HI.out | apply Go.Proofs.Ytecjbogconeilaa.Note.IsN.drewN | apply Go.Proofs.Ytecjbogconeilaa.Note.IsN.drew | apply Go.Proofs.Ytecjbogconeilaa.Note.IsN.set_1) | exact HI.out)); done) (by repeat (first | (with_reducible first | exact HB.out | apply below_alloc | apply pw_below_drewN | apply below_drew1 | refine below_set ?_ (Go.Proofs.Ytecjbogconeilaa.Note.IsN.ge HI.out)) | exact HB.out)) A1.out).mono ?_); rintro e w2 ⟨rfl, hi, hb⟩; have n0_ := Aside0.mk (hi); have n1_ := Aside0.mk (hb); (try clear HI); (try clear HB); have HI := n0_; have HB := n1_; clear n0_ n1_; have hcz2_0 := Go.Proofs.Ytecjbogconeilaa.Note.IsN.c0 HI.out; have hcz2_1 := Go.Proofs.Ytecjbogconeilaa.Note.IsN.c1 HI.out; have hcz2_2 := Go.Proofs.Ytecjbogconeilaa.Note.IsN.c2 HI.out; have hfz2_1 := Go.Proofs.Ytecjbogconeilaa.Note.IsN.fz HI.out 1; have hfz2_2 := Go.Proofs.Ytecjbogconeilaa.Note.IsN.fz HI.out 2; (try clear hi); (try clear hb)))
    go_ret
    exact ⟨(.slice Av xs.length cv), by first | rfl | (simp [*]; done), by (repeat (first | (with_reducible first | exact HI.out | apply Go.Proofs.Ytecjbogconeilaa.Note.IsN.drewN | apply Go.Proofs.Ytecjbogconeilaa.Note.IsN.drew | apply Go.Proofs.Ytecjbogconeilaa.Note.IsN.set_1) | exact HI.out)); done, by repeat (first | (with_reducible first | exact HB.out | apply below_alloc | apply pw_below_drewN | apply below_drew1 | refine below_set ?_ (Go.Proofs.Ytecjbogconeilaa.Note.IsN.ge HI.out)) | exact HB.out)⟩
  · rw [if_neg k0] at H
    have k0b : (c == 0) = false := beq_eq_false_iff_ne.mpr k0
    have k0n : (c != 0) = true := bne_iff_ne.mpr k0
    clear k0
    by_cases k1 : c = 33
    · subst k1
      rw [if_pos rfl] at H
      replace H := Option.bind_eq_some_iff.mp H
      obtain ⟨⟨b, i2, xs2⟩, a_, H⟩ := H
      have A2 := Aside0.mk a_
      clear a_
      try simp only at H
      cases b with
      | false =>
        rw [if_neg (by simp)] at H
        simp only [Option.some.injEq, Prod.mk.injEq] at H
        obtain ⟨rfl, rfl, rfl⟩ := H
        go_enter Try.func88, Try.ntmps88
        go_wp2_with (first | (go_at_call 142; (with_reducible refine (impl_notation_read.next_calls g s i (.slice Av xs.length cv) xs 33 w0 _ (by (repeat (first | (with_reducible first | exact HI.out | apply Go.Proofs.Ytecjbogconeilaa.Note.IsN.drewN | apply Go.Proofs.Ytecjbogconeilaa.Note.IsN.drew | apply Go.Proofs.Ytecjbogconeilaa.Note.IsN.set_1) | exact HI.out)); done) (by repeat (first | (with_reducible first | exact HB.out | apply below_alloc | apply pw_below_drewN | apply below_drew1 | refine below_set ?_ (Go.Proofs.Ytecjbogconeilaa.Note.IsN.ge HI.out)) | exact HB.out)) A1.out).mono ?_); rintro e w3 ⟨rfl, hi, hb⟩; have n0_ := Aside0.mk (hi); have n1_ := Aside0.mk (hb); (try clear HI); (try clear HB); have HI := n0_; have HB := n1_; clear n0_ n1_; have hcz3_0 := Go.Proofs.Ytecjbogconeilaa.Note.IsN.c0 HI.out; have hcz3_1 := Go.Proofs.Ytecjbogconeilaa.Note.IsN.c1 HI.out; have hcz3_2 := Go.Proofs.Ytecjbogconeilaa.Note.IsN.c2 HI.out; have hfz3_1 := Go.Proofs.Ytecjbogconeilaa.Note.IsN.fz HI.out 1; have hfz3_2 := Go.Proofs.Ytecjbogconeilaa.Note.IsN.fz HI.out 2; (try clear hi); (try clear hb)) | (go_at_call 88; (with_reducible refine (IHR.out g s (wrap64 (i + 1)) (.slice Av xs.length cv) xs false i2 xs2 w0 _ (by (repeat (first | (with_reducible first | exact HI.out | apply Go.Proofs.Ytecjbogconeilaa.Note.IsN.drewN | apply Go.Proofs.Ytecjbogconeilaa.Note.IsN.drew | apply Go.Proofs.Ytecjbogconeilaa.Note.IsN.set_1) | exact HI.out)); done) (by repeat (first | (with_reducible first | exact HB.out | apply below_alloc | apply pw_below_drewN | apply below_drew1 | refine below_set ?_ (Go.Proofs.Ytecjbogconeilaa.Note.IsN.ge HI.out)) | exact HB.out)) A2.out).mono ?_); rintro e w4 ⟨v_, rfl, hi, hb⟩; obtain ⟨Av2, cv2, rfl⟩ := Kd.R_slice (Go.Proofs.Ytecjbogconeilaa.Note.IsN.row hi); have n0_ := Aside0.mk (hi); have n1_ := Aside0.mk (hb); (try clear HI); (try clear HB); have HI := n0_; have HB := n1_; clear n0_ n1_; have hcz4_0 := Go.Proofs.Ytecjbogconeilaa.Note.IsN.c0 HI.out; have hcz4_1 := Go.Proofs.Ytecjbogconeilaa.Note.IsN.c1 HI.out; have hcz4_2 := Go.Proofs.Ytecjbogconeilaa.Note.IsN.c2 HI.out; have hfz4_1 := Go.Proofs.Ytecjbogconeilaa.Note.IsN.fz HI.out 1; have hfz4_2 := Go.Proofs.Ytecjbogconeilaa.Note.IsN.fz HI.out 2; (try clear hi); (try clear hb)))
        go_ret
        exact ⟨(.slice Av2 xs2.length cv2), by first | rfl | (simp [*]; done), by (repeat (first | (with_reducible first | exact HI.out | apply Go.Proofs.Ytecjbogconeilaa.Note.IsN.drewN | apply Go.Proofs.Ytecjbogconeilaa.Note.IsN.drew | apply Go.Proofs.Ytecjbogconeilaa.Note.IsN.set_1) | exact HI.out)); done, by repeat (first | (with_reducible first | exact HB.out | apply below_alloc | apply pw_below_drewN | apply below_drew1 | refine below_set ?_ (Go.Proofs.Ytecjbogconeilaa.Note.IsN.ge HI.out)) | exact HB.out)⟩
      | true =>
        rw [if_pos rfl] at H
        by_cases cl : xs2.length < 17592186044416
        · rw [if_pos cl] at H
          have LM := Aside0.mk (show (xs2.length + 1) * 8 ≤ 140737488355328 by omega)
          clear cl
          simp only [Option.some.injEq, Prod.mk.injEq] at H
          obtain ⟨rfl, rfl, hY⟩ := H
          have NY := Aside0.mk hY
          clear hY
          go_enter Try.func88, Try.ntmps88
          go_wp2_with (first | (go_at_call 142; (with_reducible refine (impl_notation_read.next_calls g s i (.slice Av xs.length cv) xs 33 w0 _ (by (repeat (first | (with_reducible first | exact HI.out | apply Go.Proofs.Ytecjbogconeilaa.Note.IsN.drewN | apply Go.Proofs.Ytecjbogconeilaa.Note.IsN.drew | apply Go.Proofs.Ytecjbogconeilaa.Note.IsN.set_1) | exact HI.out)); done) (by repeat (first | (with_reducible first | exact HB.out | apply below_alloc | apply pw_below_drewN | apply below_drew1 | refine below_set ?_ (Go.Proofs.Ytecjbogconeilaa.Note.IsN.ge HI.out)) | exact HB.out)) A1.out).mono ?_); rintro e w5 ⟨rfl, hi, hb⟩; have n0_ := Aside0.mk (hi); have n1_ := Aside0.mk (hb); (try clear HI); (try clear HB); have HI := n0_; have HB := n1_; clear n0_ n1_; have hcz5_0 := Go.Proofs.Ytecjbogconeilaa.Note.IsN.c0 HI.out; have hcz5_1 := Go.Proofs.Ytecjbogconeilaa.Note.IsN.c1 HI.out; have hcz5_2 := Go.Proofs.Ytecjbogconeilaa.Note.IsN.c2 HI.out; have hfz5_1 := Go.Proofs.Ytecjbogconeilaa.Note.IsN.fz HI.out 1; have hfz5_2 := Go.Proofs.Ytecjbogconeilaa.Note.IsN.fz HI.out 2; (try clear hi); (try clear hb)) | (go_at_call 88; (with_reducible refine (IHR.out g s (wrap64 (i + 1)) (.slice Av xs.length cv) xs true i2 xs2 w0 _ (by (repeat (first | (with_reducible first | exact HI.out | apply Go.Proofs.Ytecjbogconeilaa.Note.IsN.drewN | apply Go.Proofs.Ytecjbogconeilaa.Note.IsN.drew | apply Go.Proofs.Ytecjbogconeilaa.Note.IsN.set_1) | exact HI.out)); done) (by repeat (first | (with_reducible first | exact HB.out | apply below_alloc | apply pw_below_drewN | apply below_drew1 | refine below_set ?_ (Go.Proofs.Ytecjbogconeilaa.Note.IsN.ge HI.out)) | exact HB.out)) A2.out).mono ?_); rintro e w6 ⟨v_, rfl, hi, hb⟩; obtain ⟨Av2, cv2, rfl⟩ := Kd.R_slice (Go.Proofs.Ytecjbogconeilaa.Note.IsN.row hi); have n0_ := Aside0.mk (hi); have n1_ := Aside0.mk (hb); (try clear HI); (try clear HB); have HI := n0_; have HB := n1_; clear n0_ n1_; have hcz6_0 := Go.Proofs.Ytecjbogconeilaa.Note.IsN.c0 HI.out; have hcz6_1 := Go.Proofs.Ytecjbogconeilaa.Note.IsN.c1 HI.out; have hcz6_2 := Go.Proofs.Ytecjbogconeilaa.Note.IsN.c2 HI.out; have hfz6_1 := Go.Proofs.Ytecjbogconeilaa.Note.IsN.fz HI.out 1; have hfz6_2 := Go.Proofs.Ytecjbogconeilaa.Note.IsN.fz HI.out 2; (try clear hi); (try clear hb)) | ((with_reducible refine gate_builtin (b := .append) (xs := #[.tmp 28, .tmp 29]) rfl ?_); at_builtin; refine Kd.R_append (Kd.int .i64) (w0 := w0) w0.heap.size rfl (.tmp 28) (.tmp 29) 24 3 (.int .i64 0) 8 rfl Try.underlying24 info3 rfl (by decide) (by omega) (.slice Av2 xs2.length cv2) xs2 (-1) [.int .i64 (-1)] (fun _ => True) (fun _ => False) rfl (by first | rfl | (show Value.slice (some ⟨_, 0, none⟩) 1 1 = _; simp [World.setCell])) ?aP (fun _ hk => hk.elim) ?aF ?aO ?aB ?aS ?aL ?_; (case aP => exact rfl); (case aF => exact (fun _ _ => trivial)); (case aO => exact Go.Proofs.Ytecjbogconeilaa.Note.IsN.row (by (repeat (first | (with_reducible first | exact HI.out | apply Go.Proofs.Ytecjbogconeilaa.Note.IsN.drewN | apply Go.Proofs.Ytecjbogconeilaa.Note.IsN.drew | apply Go.Proofs.Ytecjbogconeilaa.Note.IsN.set_1) | exact HI.out)); done)); (case aB => exact (by repeat (first | (with_reducible first | exact HB.out | apply below_alloc | apply pw_below_drewN | apply below_drew1 | refine below_set ?_ (Go.Proofs.Ytecjbogconeilaa.Note.IsN.ge HI.out)) | exact HB.out))); (case aS => exact (below_size (by repeat (first | (with_reducible first | exact HB.out | apply below_alloc | apply pw_below_drewN | apply below_drew1 | refine below_set ?_ (Go.Proofs.Ytecjbogconeilaa.Note.IsN.ge HI.out)) | exact HB.out)))); (case aL => exact LM.out); intro v9 w7 ho hb hg hat_; rw [NY.out] at ho; obtain ⟨A9, c9, rfl⟩ := Kd.R_slice ho; have n0_ := Aside0.mk (show Go.Proofs.Ytecjbogconeilaa.Note.IsM 3 65 w0 w7 g s i2 (.slice Av2 xs2.length cv2) (.slice A9 xs'.length c9) xs' from Go.Proofs.Ytecjbogconeilaa.Note.IsN.grow (show Go.Proofs.Ytecjbogconeilaa.Note.IsN 3 65 w0 _ g s i2 (.slice Av2 xs2.length cv2) xs2 from by (repeat (first | (with_reducible first | exact HI.out | apply Go.Proofs.Ytecjbogconeilaa.Note.IsN.drewN | apply Go.Proofs.Ytecjbogconeilaa.Note.IsN.drew | apply Go.Proofs.Ytecjbogconeilaa.Note.IsN.set_1) | exact HI.out)); done) hg ho); have n1_ := Aside0.mk hb; clear HB; have HM := n0_; have HB := n1_; clear n0_ n1_ ho hb hg hat_; have hcm_ := Go.Proofs.Ytecjbogconeilaa.Note.IsM.c2 HM.out; have hfm_ := Go.Proofs.Ytecjbogconeilaa.Note.IsM.fz HM.out 2))
          go_ret
          exact ⟨(.slice A9 xs'.length c9), by first | rfl | (simp [*]; done), by (repeat (first | (with_reducible first | exact HM.out | apply Go.Proofs.Ytecjbogconeilaa.Note.IsN.drewN | apply Go.Proofs.Ytecjbogconeilaa.Note.IsN.drew | apply Go.Proofs.Ytecjbogconeilaa.Note.IsN.set_1 | apply Go.Proofs.Ytecjbogconeilaa.Note.IsM.drewN | apply Go.Proofs.Ytecjbogconeilaa.Note.IsM.drew | apply Go.Proofs.Ytecjbogconeilaa.Note.IsM.set_2) | exact HM.out)); done, by repeat (first | (with_reducible first | exact HB.out | apply below_alloc | apply pw_below_drewN | apply below_drew1 | refine below_set ?_ (Go.Proofs.Ytecjbogconeilaa.Note.IsM.ge HM.out)) | exact HB.out)⟩
        · rw [if_neg cl] at H
          exact absurd H (by simp)
    · rw [if_neg k1] at H
      have k1b : (c == 33) = false := beq_eq_false_iff_ne.mpr k1
      have k1n : (c != 33) = true := bne_iff_ne.mpr k1
      clear k1
      by_cases k2 : c = 40
      · subst k2
        rw [if_pos rfl] at H
        have A2 := Aside0.mk H
        clear H
        go_enter Try.func88, Try.ntmps88
        go_wp2_with (first | (go_at_call 142; (with_reducible refine (impl_notation_read.next_calls g s i (.slice Av xs.length cv) xs 40 w0 _ (by (repeat (first | (with_reducible first | exact HI.out | apply Go.Proofs.Ytecjbogconeilaa.Note.IsN.drewN | apply Go.Proofs.Ytecjbogconeilaa.Note.IsN.drew | apply Go.Proofs.Ytecjbogconeilaa.Note.IsN.set_1) | exact HI.out)); done) (by repeat (first | (with_reducible first | exact HB.out | apply below_alloc | apply pw_below_drewN | apply below_drew1 | refine below_set ?_ (Go.Proofs.Ytecjbogconeilaa.Note.IsN.ge HI.out)) | exact HB.out)) A1.out).mono ?_); rintro e w8 ⟨rfl, hi, hb⟩; have n0_ := Aside0.mk (hi); have n1_ := Aside0.mk (hb); (try clear HI); (try clear HB); have HI := n0_; have HB := n1_; clear n0_ n1_; have hcz8_0 := Go.Proofs.Ytecjbogconeilaa.Note.IsN.c0 HI.out; have hcz8_1 := Go.Proofs.Ytecjbogconeilaa.Note.IsN.c1 HI.out; have hcz8_2 := Go.Proofs.Ytecjbogconeilaa.Note.IsN.c2 HI.out; have hfz8_1 := Go.Proofs.Ytecjbogconeilaa.Note.IsN.fz HI.out 1; have hfz8_2 := Go.Proofs.Ytecjbogconeilaa.Note.IsN.fz HI.out 2; (try clear hi); (try clear hb)) | (go_at_call 143; (with_reducible refine (IHP.out g s (wrap64 (i + 1)) (.slice Av xs.length cv) xs r i' xs' w0 _ (by (repeat (first | (with_reducible first | exact HI.out | apply Go.Proofs.Ytecjbogconeilaa.Note.IsN.drewN | apply Go.Proofs.Ytecjbogconeilaa.Note.IsN.drew | apply Go.Proofs.Ytecjbogconeilaa.Note.IsN.set_1) | exact HI.out)); done) (by repeat (first | (with_reducible first | exact HB.out | apply below_alloc | apply pw_below_drewN | apply below_drew1 | refine below_set ?_ (Go.Proofs.Ytecjbogconeilaa.Note.IsN.ge HI.out)) | exact HB.out)) A2.out).mono ?_); rintro e w9 ⟨v_, rfl, hi, hb⟩; obtain ⟨Av2, cv2, rfl⟩ := Kd.R_slice (Go.Proofs.Ytecjbogconeilaa.Note.IsN.row hi); have n0_ := Aside0.mk (hi); have n1_ := Aside0.mk (hb); (try clear HI); (try clear HB); have HI := n0_; have HB := n1_; clear n0_ n1_; have hcz9_0 := Go.Proofs.Ytecjbogconeilaa.Note.IsN.c0 HI.out; have hcz9_1 := Go.Proofs.Ytecjbogconeilaa.Note.IsN.c1 HI.out; have hcz9_2 := Go.Proofs.Ytecjbogconeilaa.Note.IsN.c2 HI.out; have hfz9_1 := Go.Proofs.Ytecjbogconeilaa.Note.IsN.fz HI.out 1; have hfz9_2 := Go.Proofs.Ytecjbogconeilaa.Note.IsN.fz HI.out 2; (try clear hi); (try clear hb)))
        go_ret
        exact ⟨(.slice Av2 xs'.length cv2), by first | rfl | (simp [*]; done), by (repeat (first | (with_reducible first | exact HI.out | apply Go.Proofs.Ytecjbogconeilaa.Note.IsN.drewN | apply Go.Proofs.Ytecjbogconeilaa.Note.IsN.drew | apply Go.Proofs.Ytecjbogconeilaa.Note.IsN.set_1) | exact HI.out)); done, by repeat (first | (with_reducible first | exact HB.out | apply below_alloc | apply pw_below_drewN | apply below_drew1 | refine below_set ?_ (Go.Proofs.Ytecjbogconeilaa.Note.IsN.ge HI.out)) | exact HB.out)⟩
      · rw [if_neg k2] at H
        have k2b : (c == 40) = false := beq_eq_false_iff_ne.mpr k2
        have k2n : (c != 40) = true := bne_iff_ne.mpr k2
        clear k2
        by_cases k3 : c = 114
        · subst k3
          rw [if_pos rfl] at H
          by_cases cl : xs.length < 17592186044416
          · rw [if_pos cl] at H
            have LM := Aside0.mk (show (xs.length + 1) * 8 ≤ 140737488355328 by omega)
            clear cl
            simp only [Option.some.injEq, Prod.mk.injEq] at H
            obtain ⟨rfl, rfl, hY⟩ := H
            have NY := Aside0.mk hY
            clear hY
            go_enter Try.func88, Try.ntmps88
            go_wp2_with (first | (go_at_call 142; (with_reducible refine (impl_notation_read.next_calls g s i (.slice Av xs.length cv) xs 114 w0 _ (by (repeat (first | (with_reducible first | exact HI.out | apply Go.Proofs.Ytecjbogconeilaa.Note.IsN.drewN | apply Go.Proofs.Ytecjbogconeilaa.Note.IsN.drew | apply Go.Proofs.Ytecjbogconeilaa.Note.IsN.set_1) | exact HI.out)); done) (by repeat (first | (with_reducible first | exact HB.out | apply below_alloc | apply pw_below_drewN | apply below_drew1 | refine below_set ?_ (Go.Proofs.Ytecjbogconeilaa.Note.IsN.ge HI.out)) | exact HB.out)) A1.out).mono ?_); rintro e w10 ⟨rfl, hi, hb⟩; have n0_ := Aside0.mk (hi); have n1_ := Aside0.mk (hb); (try clear HI); (try clear HB); have HI := n0_; have HB := n1_; clear n0_ n1_; have hcz10_0 := Go.Proofs.Ytecjbogconeilaa.Note.IsN.c0 HI.out; have hcz10_1 := Go.Proofs.Ytecjbogconeilaa.Note.IsN.c1 HI.out; have hcz10_2 := Go.Proofs.Ytecjbogconeilaa.Note.IsN.c2 HI.out; have hfz10_1 := Go.Proofs.Ytecjbogconeilaa.Note.IsN.fz HI.out 1; have hfz10_2 := Go.Proofs.Ytecjbogconeilaa.Note.IsN.fz HI.out 2; (try clear hi); (try clear hb)) | ((with_reducible refine gate_builtin (b := .append) (xs := #[.tmp 45, .tmp 46]) rfl ?_); at_builtin; refine Kd.R_append (Kd.int .i64) (w0 := w0) w0.heap.size rfl (.tmp 45) (.tmp 46) 24 3 (.int .i64 0) 8 rfl Try.underlying24 info3 rfl (by decide) (by omega) (.slice Av xs.length cv) xs 400 [.int .i64 400] (fun _ => True) (fun _ => False) rfl (by first | rfl | (show Value.slice (some ⟨_, 0, none⟩) 1 1 = _; simp [World.setCell])) ?aP (fun _ hk => hk.elim) ?aF ?aO ?aB ?aS ?aL ?_; (case aP => exact rfl); (case aF => exact (fun _ _ => trivial)); (case aO => exact Go.Proofs.Ytecjbogconeilaa.Note.IsN.row (by (repeat (first | (with_reducible first | exact HI.out | apply Go.Proofs.Ytecjbogconeilaa.Note.IsN.drewN | apply Go.Proofs.Ytecjbogconeilaa.Note.IsN.drew | apply Go.Proofs.Ytecjbogconeilaa.Note.IsN.set_1) | exact HI.out)); done)); (case aB => exact (by repeat (first | (with_reducible first | exact HB.out | apply below_alloc | apply pw_below_drewN | apply below_drew1 | refine below_set ?_ (Go.Proofs.Ytecjbogconeilaa.Note.IsN.ge HI.out)) | exact HB.out))); (case aS => exact (below_size (by repeat (first | (with_reducible first | exact HB.out | apply below_alloc | apply pw_below_drewN | apply below_drew1 | refine below_set ?_ (Go.Proofs.Ytecjbogconeilaa.Note.IsN.ge HI.out)) | exact HB.out)))); (case aL => exact LM.out); intro v9 w11 ho hb hg hat_; rw [NY.out] at ho; obtain ⟨A9, c9, rfl⟩ := Kd.R_slice ho; have n0_ := Aside0.mk (show Go.Proofs.Ytecjbogconeilaa.Note.IsM 3 65 w0 w11 g s (wrap64 (i + 1)) (.slice Av xs.length cv) (.slice A9 xs'.length c9) xs' from Go.Proofs.Ytecjbogconeilaa.Note.IsN.grow (show Go.Proofs.Ytecjbogconeilaa.Note.IsN 3 65 w0 _ g s (wrap64 (i + 1)) (.slice Av xs.length cv) xs from by (repeat (first | (with_reducible first | exact HI.out | apply Go.Proofs.Ytecjbogconeilaa.Note.IsN.drewN | apply Go.Proofs.Ytecjbogconeilaa.Note.IsN.drew | apply Go.Proofs.Ytecjbogconeilaa.Note.IsN.set_1) | exact HI.out)); done) hg ho); have n1_ := Aside0.mk hb; clear HB; have HM := n0_; have HB := n1_; clear n0_ n1_ ho hb hg hat_; have hcm_ := Go.Proofs.Ytecjbogconeilaa.Note.IsM.c2 HM.out; have hfm_ := Go.Proofs.Ytecjbogconeilaa.Note.IsM.fz HM.out 2))
            go_ret
            exact ⟨(.slice A9 xs'.length c9), by first | rfl | (simp [*]; done), by (repeat (first | (with_reducible first | exact HM.out | apply Go.Proofs.Ytecjbogconeilaa.Note.IsN.drewN | apply Go.Proofs.Ytecjbogconeilaa.Note.IsN.drew | apply Go.Proofs.Ytecjbogconeilaa.Note.IsN.set_1 | apply Go.Proofs.Ytecjbogconeilaa.Note.IsM.drewN | apply Go.Proofs.Ytecjbogconeilaa.Note.IsM.drew | apply Go.Proofs.Ytecjbogconeilaa.Note.IsM.set_2) | exact HM.out)); done, by repeat (first | (with_reducible first | exact HB.out | apply below_alloc | apply pw_below_drewN | apply below_drew1 | refine below_set ?_ (Go.Proofs.Ytecjbogconeilaa.Note.IsM.ge HM.out)) | exact HB.out)⟩
          · rw [if_neg cl] at H
            exact absurd H (by simp)
        · rw [if_neg k3] at H
          have k3b : (c == 114) = false := beq_eq_false_iff_ne.mpr k3
          have k3n : (c != 114) = true := bne_iff_ne.mpr k3
          clear k3
          replace H := Option.bind_eq_some_iff.mp H
          obtain ⟨t, a_, H⟩ := H
          have A2 := Aside0.mk a_
          clear a_
          try simp only at H
          by_cases kt : t ≥ 0
          · rw [if_pos kt] at H
            have ktb : decide (0 ≤ t) = true := decide_eq_true kt
            clear kt
            by_cases cl : xs.length < 17592186044416
            · rw [if_pos cl] at H
              have LM := Aside0.mk (show (xs.length + 1) * 8 ≤ 140737488355328 by omega)
              clear cl
              simp only [Option.some.injEq, Prod.mk.injEq] at H
              obtain ⟨rfl, rfl, hY⟩ := H
              have NY := Aside0.mk hY
              clear hY
              go_enter Try.func88, Try.ntmps88
              go_wp2_with (first | (go_at_call 142; (with_reducible refine (impl_notation_read.next_calls g s i (.slice Av xs.length cv) xs c w0 _ (by (repeat (first | (with_reducible first | exact HI.out | apply Go.Proofs.Ytecjbogconeilaa.Note.IsN.drewN | apply Go.Proofs.Ytecjbogconeilaa.Note.IsN.drew | apply Go.Proofs.Ytecjbogconeilaa.Note.IsN.set_1) | exact HI.out)); done) (by repeat (first | (with_reducible first | exact HB.out | apply below_alloc | apply pw_below_drewN | apply below_drew1 | refine below_set ?_ (Go.Proofs.Ytecjbogconeilaa.Note.IsN.ge HI.out)) | exact HB.out)) A1.out).mono ?_); rintro e w12 ⟨rfl, hi, hb⟩; have n0_ := Aside0.mk (hi); have n1_ := Aside0.mk (hb); (try clear HI); (try clear HB); have HI := n0_; have HB := n1_; clear n0_ n1_; have hcz12_0 := Go.Proofs.Ytecjbogconeilaa.Note.IsN.c0 HI.out; have hcz12_1 := Go.Proofs.Ytecjbogconeilaa.Note.IsN.c1 HI.out; have hcz12_2 := Go.Proofs.Ytecjbogconeilaa.Note.IsN.c2 HI.out; have hfz12_1 := Go.Proofs.Ytecjbogconeilaa.Note.IsN.fz HI.out 1; have hfz12_2 := Go.Proofs.Ytecjbogconeilaa.Note.IsN.fz HI.out 2; (try clear hi); (try clear hb)) | (go_at_call 144; (with_reducible refine (strings_IndexByte.calls (⟨#[99, 100, 104, 115]⟩ : ByteArray) c t _ A2.out).mono ?_); rintro e w13 ⟨rfl, hd⟩; obtain ⟨nd_, rfl⟩ := hd) | ((with_reducible refine gate_builtin (b := .append) (xs := #[.tmp 58, .tmp 61]) rfl ?_); at_builtin; refine Kd.R_append (Kd.int .i64) (w0 := w0) w0.heap.size rfl (.tmp 58) (.tmp 61) 24 3 (.int .i64 0) 8 rfl Try.underlying24 info3 rfl (by decide) (by omega) (.slice Av xs.length cv) xs (wrap64 (100 + t)) [.int .i64 (wrap64 (100 + t))] (fun _ => True) (fun _ => False) rfl (by first | rfl | (show Value.slice (some ⟨_, 0, none⟩) 1 1 = _; simp [World.setCell])) ?aP (fun _ hk => hk.elim) ?aF ?aO ?aB ?aS ?aL ?_; (case aP => exact rfl); (case aF => exact (fun _ _ => trivial)); (case aO => exact Go.Proofs.Ytecjbogconeilaa.Note.IsN.row (by (repeat (first | (with_reducible first | exact HI.out | apply Go.Proofs.Ytecjbogconeilaa.Note.IsN.drewN | apply Go.Proofs.Ytecjbogconeilaa.Note.IsN.drew | apply Go.Proofs.Ytecjbogconeilaa.Note.IsN.set_1) | exact HI.out)); done)); (case aB => exact (by repeat (first | (with_reducible first | exact HB.out | apply below_alloc | apply pw_below_drewN | apply below_drew1 | refine below_set ?_ (Go.Proofs.Ytecjbogconeilaa.Note.IsN.ge HI.out)) | exact HB.out))); (case aS => exact (below_size (by repeat (first | (with_reducible first | exact HB.out | apply below_alloc | apply pw_below_drewN | apply below_drew1 | refine below_set ?_ (Go.Proofs.Ytecjbogconeilaa.Note.IsN.ge HI.out)) | exact HB.out)))); (case aL => exact LM.out); intro v9 w14 ho hb hg hat_; rw [NY.out] at ho; obtain ⟨A9, c9, rfl⟩ := Kd.R_slice ho; have n0_ := Aside0.mk (show Go.Proofs.Ytecjbogconeilaa.Note.IsM 3 65 w0 w14 g s (wrap64 (i + 1)) (.slice Av xs.length cv) (.slice A9 xs'.length c9) xs' from Go.Proofs.Ytecjbogconeilaa.Note.IsN.grow (show Go.Proofs.Ytecjbogconeilaa.Note.IsN 3 65 w0 _ g s (wrap64 (i + 1)) (.slice Av xs.length cv) xs from by (repeat (first | (with_reducible first | exact HI.out | apply Go.Proofs.Ytecjbogconeilaa.Note.IsN.drewN | apply Go.Proofs.Ytecjbogconeilaa.Note.IsN.drew | apply Go.Proofs.Ytecjbogconeilaa.Note.IsN.set_1) | exact HI.out)); done) hg ho); have n1_ := Aside0.mk hb; clear HB; have HM := n0_; have HB := n1_; clear n0_ n1_ ho hb hg hat_; have hcm_ := Go.Proofs.Ytecjbogconeilaa.Note.IsM.c2 HM.out; have hfm_ := Go.Proofs.Ytecjbogconeilaa.Note.IsM.fz HM.out 2))
              go_ret
              exact ⟨(.slice A9 xs'.length c9), by first | rfl | (simp [*]; done), by (repeat (first | (with_reducible first | exact HM.out | apply Go.Proofs.Ytecjbogconeilaa.Note.IsN.drewN | apply Go.Proofs.Ytecjbogconeilaa.Note.IsN.drew | apply Go.Proofs.Ytecjbogconeilaa.Note.IsN.set_1 | apply Go.Proofs.Ytecjbogconeilaa.Note.IsM.drewN | apply Go.Proofs.Ytecjbogconeilaa.Note.IsM.drew | apply Go.Proofs.Ytecjbogconeilaa.Note.IsM.set_2) | exact HM.out)); done, by repeat (first | (with_reducible first | exact HB.out | apply below_alloc | apply pw_below_drewN | apply below_drew1 | refine below_set ?_ (Go.Proofs.Ytecjbogconeilaa.Note.IsM.ge HM.out)) | exact HB.out)⟩
            · rw [if_neg cl] at H
              exact absurd H (by simp)
          · rw [if_neg kt] at H
            have ktb : decide (0 ≤ t) = false := decide_eq_false kt
            clear kt
            replace H := Option.bind_eq_some_iff.mp H
            obtain ⟨r2, a_, H⟩ := H
            have A3 := Aside0.mk a_
            clear a_
            try simp only at H
            by_cases kr : r2 < 0
            · rw [if_pos kr] at H
              have krb : decide (r2 < 0) = true := decide_eq_true kr
              clear kr
              simp only [Option.some.injEq, Prod.mk.injEq] at H
              obtain ⟨rfl, rfl, rfl⟩ := H
              go_enter Try.func88, Try.ntmps88
              go_wp2_with (first | (go_at_call 142; (with_reducible refine (impl_notation_read.next_calls g s i (.slice Av xs.length cv) xs c w0 _ (by (repeat (first | (with_reducible first | exact HI.out | apply Go.Proofs.Ytecjbogconeilaa.Note.IsN.drewN | apply Go.Proofs.Ytecjbogconeilaa.Note.IsN.drew | apply Go.Proofs.Ytecjbogconeilaa.Note.IsN.set_1) | exact HI.out)); done) (by repeat (first | (with_reducible first | exact HB.out | apply below_alloc | apply pw_below_drewN | apply below_drew1 | refine below_set ?_ (Go.Proofs.Ytecjbogconeilaa.Note.IsN.ge HI.out)) | exact HB.out)) A1.out).mono ?_); rintro e w15 ⟨rfl, hi, hb⟩; have n0_ := Aside0.mk (hi); have n1_ := Aside0.mk (hb); (try clear HI); (try clear HB); have HI := n0_; have HB := n1_; clear n0_ n1_; have hcz15_0 := Go.Proofs.Ytecjbogconeilaa.Note.IsN.c0 HI.out; have hcz15_1 := Go.Proofs.Ytecjbogconeilaa.Note.IsN.c1 HI.out; have hcz15_2 := Go.Proofs.Ytecjbogconeilaa.Note.IsN.c2 HI.out; have hfz15_1 := Go.Proofs.Ytecjbogconeilaa.Note.IsN.fz HI.out 1; have hfz15_2 := Go.Proofs.Ytecjbogconeilaa.Note.IsN.fz HI.out 2; (try clear hi); (try clear hb)) | (go_at_call 144; (with_reducible refine (strings_IndexByte.calls (⟨#[99, 100, 104, 115]⟩ : ByteArray) c t _ A2.out).mono ?_); rintro e w16 ⟨rfl, hd⟩; obtain ⟨nd_, rfl⟩ := hd) | (go_at_call 144; (with_reducible refine (strings_IndexByte.calls (⟨#[50, 51, 52, 53, 54, 55, 56, 57, 84, 74, 81, 75, 65]⟩ : ByteArray) c r2 _ A3.out).mono ?_); rintro e w17 ⟨rfl, hd⟩; obtain ⟨nd_, rfl⟩ := hd))
              go_ret
              exact ⟨(.slice Av xs.length cv), by first | rfl | (simp [*]; done), by (repeat (first | (with_reducible first | exact HI.out | apply Go.Proofs.Ytecjbogconeilaa.Note.IsN.drewN | apply Go.Proofs.Ytecjbogconeilaa.Note.IsN.drew | apply Go.Proofs.Ytecjbogconeilaa.Note.IsN.set_1) | exact HI.out)); done, by repeat (first | (with_reducible first | exact HB.out | apply below_alloc | apply pw_below_drewN | apply below_drew1 | refine below_set ?_ (Go.Proofs.Ytecjbogconeilaa.Note.IsN.ge HI.out)) | exact HB.out)⟩
            · rw [if_neg kr] at H
              have krb : decide (r2 < 0) = false := decide_eq_false kr
              clear kr
              replace H := Option.bind_eq_some_iff.mp H
              obtain ⟨d, a_, H⟩ := H
              have A4 := Aside0.mk a_
              clear a_
              try simp only at H
              by_cases k5 : d = 43
              · subst k5
                rw [if_pos rfl] at H
                by_cases cl : xs.length < 17592186044416
                · rw [if_pos cl] at H
                  have LM := Aside0.mk (show (xs.length + 1) * 8 ≤ 140737488355328 by omega)
                  clear cl
                  simp only [Option.some.injEq, Prod.mk.injEq] at H
                  obtain ⟨rfl, rfl, hY⟩ := H
                  have NY := Aside0.mk hY
                  clear hY
                  go_enter Try.func88, Try.ntmps88
                  go_wp2_with (first | (go_at_call 142; clear tkn_; (with_reducible refine (impl_notation_read.next_calls g s (wrap64 (i + 1)) (.slice Av xs.length cv) xs 43 w0 _ (by (repeat (first | (with_reducible first | exact HI.out | apply Go.Proofs.Ytecjbogconeilaa.Note.IsN.drewN | apply Go.Proofs.Ytecjbogconeilaa.Note.IsN.drew | apply Go.Proofs.Ytecjbogconeilaa.Note.IsN.set_1) | exact HI.out)); done) (by repeat (first | (with_reducible first | exact HB.out | apply below_alloc | apply pw_below_drewN | apply below_drew1 | refine below_set ?_ (Go.Proofs.Ytecjbogconeilaa.Note.IsN.ge HI.out)) | exact HB.out)) A4.out).mono ?_); rintro e w18 ⟨rfl, hi, hb⟩; have n0_ := Aside0.mk (hi); have n1_ := Aside0.mk (hb); (try clear HI); (try clear HB); have HI := n0_; have HB := n1_; clear n0_ n1_; have hcz18_0 := Go.Proofs.Ytecjbogconeilaa.Note.IsN.c0 HI.out; have hcz18_1 := Go.Proofs.Ytecjbogconeilaa.Note.IsN.c1 HI.out; have hcz18_2 := Go.Proofs.Ytecjbogconeilaa.Note.IsN.c2 HI.out; have hfz18_1 := Go.Proofs.Ytecjbogconeilaa.Note.IsN.fz HI.out 1; have hfz18_2 := Go.Proofs.Ytecjbogconeilaa.Note.IsN.fz HI.out 2; (try clear hi); (try clear hb)) | (go_at_call 142; (with_reducible refine (impl_notation_read.next_calls g s i (.slice Av xs.length cv) xs c w0 _ (by (repeat (first | (with_reducible first | exact HI.out | apply Go.Proofs.Ytecjbogconeilaa.Note.IsN.drewN | apply Go.Proofs.Ytecjbogconeilaa.Note.IsN.drew | apply Go.Proofs.Ytecjbogconeilaa.Note.IsN.set_1) | exact HI.out)); done) (by repeat (first | (with_reducible first | exact HB.out | apply below_alloc | apply pw_below_drewN | apply below_drew1 | refine below_set ?_ (Go.Proofs.Ytecjbogconeilaa.Note.IsN.ge HI.out)) | exact HB.out)) A1.out).mono ?_); rintro e w19 ⟨rfl, hi, hb⟩; have n0_ := Aside0.mk (hi); have n1_ := Aside0.mk (hb); (try clear HI); (try clear HB); have HI := n0_; have HB := n1_; clear n0_ n1_; have hcz19_0 := Go.Proofs.Ytecjbogconeilaa.Note.IsN.c0 HI.out; have hcz19_1 := Go.Proofs.Ytecjbogconeilaa.Note.IsN.c1 HI.out; have hcz19_2 := Go.Proofs.Ytecjbogconeilaa.Note.IsN.c2 HI.out; have hfz19_1 := Go.Proofs.Ytecjbogconeilaa.Note.IsN.fz HI.out 1; have hfz19_2 := Go.Proofs.Ytecjbogconeilaa.Note.IsN.fz HI.out 2; (try clear hi); (try clear hb); have tkn_ := Aside0.mk trivial) | (go_at_call 144; (with_reducible refine (strings_IndexByte.calls (⟨#[99, 100, 104, 115]⟩ : ByteArray) c t _ A2.out).mono ?_); rintro e w20 ⟨rfl, hd⟩; obtain ⟨nd_, rfl⟩ := hd) | (go_at_call 144; (with_reducible refine (strings_IndexByte.calls (⟨#[50, 51, 52, 53, 54, 55, 56, 57, 84, 74, 81, 75, 65]⟩ : ByteArray) c r2 _ A3.out).mono ?_); rintro e w21 ⟨rfl, hd⟩; obtain ⟨nd_, rfl⟩ := hd) | ((with_reducible refine gate_builtin (b := .append) (xs := #[.tmp 83, .tmp 86]) rfl ?_); at_builtin; refine Kd.R_append (Kd.int .i64) (w0 := w0) w0.heap.size rfl (.tmp 83) (.tmp 86) 24 3 (.int .i64 0) 8 rfl Try.underlying24 info3 rfl (by decide) (by omega) (.slice Av xs.length cv) xs (wrap64 (300 + r2)) [.int .i64 (wrap64 (300 + r2))] (fun _ => True) (fun _ => False) rfl (by first | rfl | (show Value.slice (some ⟨_, 0, none⟩) 1 1 = _; simp [World.setCell])) ?aP (fun _ hk => hk.elim) ?aF ?aO ?aB ?aS ?aL ?_; (case aP => exact rfl); (case aF => exact (fun _ _ => trivial)); (case aO => exact Go.Proofs.Ytecjbogconeilaa.Note.IsN.row (by (repeat (first | (with_reducible first | exact HI.out | apply Go.Proofs.Ytecjbogconeilaa.Note.IsN.drewN | apply Go.Proofs.Ytecjbogconeilaa.Note.IsN.drew | apply Go.Proofs.Ytecjbogconeilaa.Note.IsN.set_1) | exact HI.out)); done)); (case aB => exact (by repeat (first | (with_reducible first | exact HB.out | apply below_alloc | apply pw_below_drewN | apply below_drew1 | refine below_set ?_ (Go.Proofs.Ytecjbogconeilaa.Note.IsN.ge HI.out)) | exact HB.out))); (case aS => exact (below_size (by repeat (first | (with_reducible first | exact HB.out | apply below_alloc | apply pw_below_drewN | apply below_drew1 | refine below_set ?_ (Go.Proofs.Ytecjbogconeilaa.Note.IsN.ge HI.out)) | exact HB.out)))); (case aL => exact LM.out); intro v9 w22 ho hb hg hat_; rw [NY.out] at ho; obtain ⟨A9, c9, rfl⟩ := Kd.R_slice ho; have n0_ := Aside0.mk (show Go.Proofs.Ytecjbogconeilaa.Note.IsM 3 65 w0 w22 g s (wrap64 ((wrap64 (i + 1)) + 1)) (.slice Av xs.length cv) (.slice A9 xs'.length c9) xs' from Go.Proofs.Ytecjbogconeilaa.Note.IsN.grow (show Go.Proofs.Ytecjbogconeilaa.Note.IsN 3 65 w0 _ g s (wrap64 ((wrap64 (i + 1)) + 1)) (.slice Av xs.length cv) xs from by (repeat (first | (with_reducible first | exact HI.out | apply Go.Proofs.Ytecjbogconeilaa.Note.IsN.drewN | apply Go.Proofs.Ytecjbogconeilaa.Note.IsN.drew | apply Go.Proofs.Ytecjbogconeilaa.Note.IsN.set_1) | exact HI.out)); done) hg ho); have n1_ := Aside0.mk hb; clear HB; have HM := n0_; have HB := n1_; clear n0_ n1_ ho hb hg hat_; have hcm_ := Go.Proofs.Ytecjbogconeilaa.Note.IsM.c2 HM.out; have hfm_ := Go.Proofs.Ytecjbogconeilaa.Note.IsM.fz HM.out 2))
                  go_ret
                  exact ⟨(.slice A9 xs'.length c9), by first | rfl | (simp [*]; done), by (repeat (first | (with_reducible first | exact HM.out | apply Go.Proofs.Ytecjbogconeilaa.Note.IsN.drewN | apply Go.Proofs.Ytecjbogconeilaa.Note.IsN.drew | apply Go.Proofs.Ytecjbogconeilaa.Note.IsN.set_1 | apply Go.Proofs.Ytecjbogconeilaa.Note.IsM.drewN | apply Go.Proofs.Ytecjbogconeilaa.Note.IsM.drew | apply Go.Proofs.Ytecjbogconeilaa.Note.IsM.set_2) | exact HM.out)); done, by repeat (first | (with_reducible first | exact HB.out | apply below_alloc | apply pw_below_drewN | apply below_drew1 | refine below_set ?_ (Go.Proofs.Ytecjbogconeilaa.Note.IsM.ge HM.out)) | exact HB.out)⟩
                · rw [if_neg cl] at H
                  exact absurd H (by simp)
              · rw [if_neg k5] at H
                have k5b : (d == 43) = false := beq_eq_false_iff_ne.mpr k5
                have k5n : (d != 43) = true := bne_iff_ne.mpr k5
                clear k5
                by_cases cl : xs.length < 17592186044416
                · rw [if_pos cl] at H
                  have LM := Aside0.mk (show (xs.length + 1) * 8 ≤ 140737488355328 by omega)
                  clear cl
                  simp only [Option.some.injEq, Prod.mk.injEq] at H
                  obtain ⟨rfl, rfl, hY⟩ := H
                  have NY := Aside0.mk hY
                  clear hY
                  go_enter Try.func88, Try.ntmps88
                  go_wp2_with (first | (go_at_call 142; clear tkn_; (with_reducible refine (impl_notation_read.next_calls g s (wrap64 (i + 1)) (.slice Av xs.length cv) xs d w0 _ (by (repeat (first | (with_reducible first | exact HI.out | apply Go.Proofs.Ytecjbogconeilaa.Note.IsN.drewN | apply Go.Proofs.Ytecjbogconeilaa.Note.IsN.drew | apply Go.Proofs.Ytecjbogconeilaa.Note.IsN.set_1) | exact HI.out)); done) (by repeat (first | (with_reducible first | exact HB.out | apply below_alloc | apply pw_below_drewN | apply below_drew1 | refine below_set ?_ (Go.Proofs.Ytecjbogconeilaa.Note.IsN.ge HI.out)) | exact HB.out)) A4.out).mono ?_); rintro e w23 ⟨rfl, hi, hb⟩; have n0_ := Aside0.mk (hi); have n1_ := Aside0.mk (hb); (try clear HI); (try clear HB); have HI := n0_; have HB := n1_; clear n0_ n1_; have hcz23_0 := Go.Proofs.Ytecjbogconeilaa.Note.IsN.c0 HI.out; have hcz23_1 := Go.Proofs.Ytecjbogconeilaa.Note.IsN.c1 HI.out; have hcz23_2 := Go.Proofs.Ytecjbogconeilaa.Note.IsN.c2 HI.out; have hfz23_1 := Go.Proofs.Ytecjbogconeilaa.Note.IsN.fz HI.out 1; have hfz23_2 := Go.Proofs.Ytecjbogconeilaa.Note.IsN.fz HI.out 2; (try clear hi); (try clear hb)) | (go_at_call 142; (with_reducible refine (impl_notation_read.next_calls g s i (.slice Av xs.length cv) xs c w0 _ (by (repeat (first | (with_reducible first | exact HI.out | apply Go.Proofs.Ytecjbogconeilaa.Note.IsN.drewN | apply Go.Proofs.Ytecjbogconeilaa.Note.IsN.drew | apply Go.Proofs.Ytecjbogconeilaa.Note.IsN.set_1) | exact HI.out)); done) (by repeat (first | (with_reducible first | exact HB.out | apply below_alloc | apply pw_below_drewN | apply below_drew1 | refine below_set ?_ (Go.Proofs.Ytecjbogconeilaa.Note.IsN.ge HI.out)) | exact HB.out)) A1.out).mono ?_); rintro e w24 ⟨rfl, hi, hb⟩; have n0_ := Aside0.mk (hi); have n1_ := Aside0.mk (hb); (try clear HI); (try clear HB); have HI := n0_; have HB := n1_; clear n0_ n1_; have hcz24_0 := Go.Proofs.Ytecjbogconeilaa.Note.IsN.c0 HI.out; have hcz24_1 := Go.Proofs.Ytecjbogconeilaa.Note.IsN.c1 HI.out; have hcz24_2 := Go.Proofs.Ytecjbogconeilaa.Note.IsN.c2 HI.out; have hfz24_1 := Go.Proofs.Ytecjbogconeilaa.Note.IsN.fz HI.out 1; have hfz24_2 := Go.Proofs.Ytecjbogconeilaa.Note.IsN.fz HI.out 2; (try clear hi); (try clear hb); have tkn_ := Aside0.mk trivial) | (go_at_call 144; (with_reducible refine (strings_IndexByte.calls (⟨#[99, 100, 104, 115]⟩ : ByteArray) c t _ A2.out).mono ?_); rintro e w25 ⟨rfl, hd⟩; obtain ⟨nd_, rfl⟩ := hd) | (go_at_call 144; (with_reducible refine (strings_IndexByte.calls (⟨#[50, 51, 52, 53, 54, 55, 56, 57, 84, 74, 81, 75, 65]⟩ : ByteArray) c r2 _ A3.out).mono ?_); rintro e w26 ⟨rfl, hd⟩; obtain ⟨nd_, rfl⟩ := hd) | ((with_reducible refine gate_builtin (b := .append) (xs := #[.tmp 94, .tmp 97]) rfl ?_); at_builtin; refine Kd.R_append (Kd.int .i64) (w0 := w0) w0.heap.size rfl (.tmp 94) (.tmp 97) 24 3 (.int .i64 0) 8 rfl Try.underlying24 info3 rfl (by decide) (by omega) (.slice Av xs.length cv) xs (wrap64 (200 + r2)) [.int .i64 (wrap64 (200 + r2))] (fun _ => True) (fun _ => False) rfl (by first | rfl | (show Value.slice (some ⟨_, 0, none⟩) 1 1 = _; simp [World.setCell])) ?aP (fun _ hk => hk.elim) ?aF ?aO ?aB ?aS ?aL ?_; (case aP => exact rfl); (case aF => exact (fun _ _ => trivial)); (case aO => exact Go.Proofs.Ytecjbogconeilaa.Note.IsN.row (by (repeat (first | (with_reducible first | exact HI.out | apply Go.Proofs.Ytecjbogconeilaa.Note.IsN.drewN | apply Go.Proofs.Ytecjbogconeilaa.Note.IsN.drew | apply Go.Proofs.Ytecjbogconeilaa.Note.IsN.set_1) | exact HI.out)); done)); (case aB => exact (by repeat (first | (with_reducible first | exact HB.out | apply below_alloc | apply pw_below_drewN | apply below_drew1 | refine below_set ?_ (Go.Proofs.Ytecjbogconeilaa.Note.IsN.ge HI.out)) | exact HB.out))); (case aS => exact (below_size (by repeat (first | (with_reducible first | exact HB.out | apply below_alloc | apply pw_below_drewN | apply below_drew1 | refine below_set ?_ (Go.Proofs.Ytecjbogconeilaa.Note.IsN.ge HI.out)) | exact HB.out)))); (case aL => exact LM.out); intro v9 w27 ho hb hg hat_; rw [NY.out] at ho; obtain ⟨A9, c9, rfl⟩ := Kd.R_slice ho; have n0_ := Aside0.mk (show Go.Proofs.Ytecjbogconeilaa.Note.IsM 3 65 w0 w27 g s (wrap64 (i + 1)) (.slice Av xs.length cv) (.slice A9 xs'.length c9) xs' from Go.Proofs.Ytecjbogconeilaa.Note.IsN.grow (show Go.Proofs.Ytecjbogconeilaa.Note.IsN 3 65 w0 _ g s (wrap64 (i + 1)) (.slice Av xs.length cv) xs from by (repeat (first | (with_reducible first | exact HI.out | apply Go.Proofs.Ytecjbogconeilaa.Note.IsN.drewN | apply Go.Proofs.Ytecjbogconeilaa.Note.IsN.drew | apply Go.Proofs.Ytecjbogconeilaa.Note.IsN.set_1) | exact HI.out)); done) hg ho); have n1_ := Aside0.mk hb; clear HB; have HM := n0_; have HB := n1_; clear n0_ n1_ ho hb hg hat_; have hcm_ := Go.Proofs.Ytecjbogconeilaa.Note.IsM.c2 HM.out; have hfm_ := Go.Proofs.Ytecjbogconeilaa.Note.IsM.fz HM.out 2))
                  go_ret
                  exact ⟨(.slice A9 xs'.length c9), by first | rfl | (simp [*]; done), by (repeat (first | (with_reducible first | exact HM.out | apply Go.Proofs.Ytecjbogconeilaa.Note.IsN.drewN | apply Go.Proofs.Ytecjbogconeilaa.Note.IsN.drew | apply Go.Proofs.Ytecjbogconeilaa.Note.IsN.set_1 | apply Go.Proofs.Ytecjbogconeilaa.Note.IsM.drewN | apply Go.Proofs.Ytecjbogconeilaa.Note.IsM.drew | apply Go.Proofs.Ytecjbogconeilaa.Note.IsM.set_2) | exact HM.out)); done, by repeat (first | (with_reducible first | exact HB.out | apply below_alloc | apply pw_below_drewN | apply below_drew1 | refine below_set ?_ (Go.Proofs.Ytecjbogconeilaa.Note.IsM.ge HM.out)) | exact HB.out)⟩
                · rw [if_neg cl] at H
                  exact absurd H (by simp)
set_option maxHeartbeats 8000000 in
set_option maxRecDepth 100000 in
theorem impl_notation_read.pair_step (k : Nat) (IHR : Aside0 (∀ (g : Nat) (s : ByteArray) (i : Int) (v : Value) (xs : List Int) (r : Bool) (i' : Int) (xs' : List Int) (w0 w : World), Go.Proofs.Ytecjbogconeilaa.Note.IsN 3 65 w0 w g s i v xs → Below w0.heap.size w0 w → impl_notation_read.f k s i xs = some (r, i', xs') → Calls Try.prog 88 #[.pointer (some ⟨g, 0, none⟩)] w fun e w' => ∃ v' : Value, e = .returned (.bool r) ∧ Go.Proofs.Ytecjbogconeilaa.Note.IsN 3 65 w0 w' g s i' v' xs' ∧ Below w0.heap.size w0 w')) (IHR1 : Aside0 (∀ (g : Nat) (s : ByteArray) (i : Int) (v : Value) (xs : List Int) (r : Bool) (i' : Int) (xs' : List Int) (w0 w : World), Go.Proofs.Ytecjbogconeilaa.Note.IsN 3 65 w0 w g s i v xs → Below w0.heap.size w0 w → impl_notation_read.f (k - 1) s i xs = some (r, i', xs') → Calls Try.prog 88 #[.pointer (some ⟨g, 0, none⟩)] w fun e w' => ∃ v' : Value, e = .returned (.bool r) ∧ Go.Proofs.Ytecjbogconeilaa.Note.IsN 3 65 w0 w' g s i' v' xs' ∧ Below w0.heap.size w0 w')) :
    ∀ (g : Nat) (s : ByteArray) (i : Int) (v : Value) (xs : List Int) (r : Bool) (i' : Int) (xs' : List Int) (w0 w : World), Go.Proofs.Ytecjbogconeilaa.Note.IsN 3 65 w0 w g s i v xs → Below w0.heap.size w0 w → impl_notation_read.pair (k + 1) s i xs = some (r, i', xs') → Calls Try.prog 143 #[.pointer (some ⟨g, 0, none⟩)] w fun e w' => ∃ v' : Value, e = .returned (.bool r) ∧ Go.Proofs.Ytecjbogconeilaa.Note.IsN 3 65 w0 w' g s i' v' xs' ∧ Below w0.heap.size w0 w' := by
  intro g s i v xs r i' xs' w0 w hI hB H
  obtain ⟨Av, cv, rfl⟩ := Kd.R_slice (Go.Proofs.Ytecjbogconeilaa.Note.IsN.row hI)
  have HI := Aside0.mk hI
  have HB := Aside0.mk hB
  clear hI hB
  simp only [impl_notation_read.pair] at H
  have hcz0_0 := Go.Proofs.Ytecjbogconeilaa.Note.IsN.c0 HI.out
  have hcz0_1 := Go.Proofs.Ytecjbogconeilaa.Note.IsN.c1 HI.out
  have hcz0_2 := Go.Proofs.Ytecjbogconeilaa.Note.IsN.c2 HI.out
  have hfz0_1 := Go.Proofs.Ytecjbogconeilaa.Note.IsN.fz HI.out 1
  have hfz0_2 := Go.Proofs.Ytecjbogconeilaa.Note.IsN.fz HI.out 2
  replace H := Option.bind_eq_some_iff.mp H
  obtain ⟨⟨b, i2, xs2⟩, a_, H⟩ := H
  have A1 := Aside0.mk a_
  clear a_
  try simp only at H
  cases b with
  | false =>
    rw [if_neg (by simp)] at H
    simp only [Option.some.injEq, Prod.mk.injEq] at H
    obtain ⟨rfl, rfl, rfl⟩ := H
    go_enter Try.func143, Try.ntmps143
    go_wp2_with (first | (go_at_call 88; (with_reducible refine (IHR.out g s i (.slice Av xs.length cv) xs false i2 xs2 w0 _ (by (repeat (first | (with_reducible first | exact HI.out | apply Go.Proofs.Ytecjbogconeilaa.Note.IsN.drewN | apply Go.Proofs.Ytecjbogconeilaa.Note.IsN.drew | apply Go.Proofs.Ytecjbogconeilaa.Note.IsN.set_1) | exact HI.out)); done) (by repeat (first | (with_reducible first | exact HB.out | apply below_alloc | apply pw_below_drewN | apply below_drew1 | refine below_set ?_ (Go.Proofs.Ytecjbogconeilaa.Note.IsN.ge HI.out)) | exact HB.out)) A1.out).mono ?_); rintro e w28 ⟨v_, rfl, hi, hb⟩; obtain ⟨Av2, cv2, rfl⟩ := Kd.R_slice (Go.Proofs.Ytecjbogconeilaa.Note.IsN.row hi); have n0_ := Aside0.mk (hi); have n1_ := Aside0.mk (hb); (try clear HI); (try clear HB); have HI := n0_; have HB := n1_; clear n0_ n1_; have hcz28_0 := Go.Proofs.Ytecjbogconeilaa.Note.IsN.c0 HI.out; have hcz28_1 := Go.Proofs.Ytecjbogconeilaa.Note.IsN.c1 HI.out; have hcz28_2 := Go.Proofs.Ytecjbogconeilaa.Note.IsN.c2 HI.out; have hfz28_1 := Go.Proofs.Ytecjbogconeilaa.Note.IsN.fz HI.out 1; have hfz28_2 := Go.Proofs.Ytecjbogconeilaa.Note.IsN.fz HI.out 2; (try clear hi); (try clear hb); have tkr_ := Aside0.mk trivial))
    go_ret
    exact ⟨(.slice Av2 xs2.length cv2), by first | rfl | (simp [*]; done), by (repeat (first | (with_reducible first | exact HI.out | apply Go.Proofs.Ytecjbogconeilaa.Note.IsN.drewN | apply Go.Proofs.Ytecjbogconeilaa.Note.IsN.drew | apply Go.Proofs.Ytecjbogconeilaa.Note.IsN.set_1) | exact HI.out)); done, by repeat (first | (with_reducible first | exact HB.out | apply below_alloc | apply pw_below_drewN | apply below_drew1 | refine below_set ?_ (Go.Proofs.Ytecjbogconeilaa.Note.IsN.ge HI.out)) | exact HB.out)⟩
  | true =>
    rw [if_pos rfl] at H
    replace H := Option.bind_eq_some_iff.mp H
    obtain ⟨c, a_, H⟩ := H
    have A2 := Aside0.mk a_
    clear a_
    try simp only at H
    by_cases k5 : c = 38
    · subst k5
      rw [if_pos rfl] at H
      cases k with
      | zero => exact absurd H (by simp [impl_notation_read.tail])
      | succ k =>
        simp only [Nat.add_sub_cancel] at IHR1
        simp only [impl_notation_read.tail] at H
        replace H := Option.bind_eq_some_iff.mp H
        obtain ⟨⟨b2, i3, xs3⟩, a_, H⟩ := H
        have A3 := Aside0.mk a_
        clear a_
        try simp only at H
        cases b2 with
        | false =>
          rw [if_neg (by simp)] at H
          simp only [Option.some.injEq, Prod.mk.injEq] at H
          obtain ⟨rfl, rfl, rfl⟩ := H
          go_enter Try.func143, Try.ntmps143
          go_wp2_with (first | (go_at_call 88; clear tkr_; (with_reducible refine (IHR1.out g s (wrap64 (i2 + 1)) (.slice Av2 xs2.length cv2) xs2 false i3 xs3 w0 _ (by (repeat (first | (with_reducible first | exact HI.out | apply Go.Proofs.Ytecjbogconeilaa.Note.IsN.drewN | apply Go.Proofs.Ytecjbogconeilaa.Note.IsN.drew | apply Go.Proofs.Ytecjbogconeilaa.Note.IsN.set_1) | exact HI.out)); done) (by repeat (first | (with_reducible first | exact HB.out | apply below_alloc | apply pw_below_drewN | apply below_drew1 | refine below_set ?_ (Go.Proofs.Ytecjbogconeilaa.Note.IsN.ge HI.out)) | exact HB.out)) A3.out).mono ?_); rintro e w29 ⟨v_, rfl, hi, hb⟩; obtain ⟨Av3, cv3, rfl⟩ := Kd.R_slice (Go.Proofs.Ytecjbogconeilaa.Note.IsN.row hi); have n0_ := Aside0.mk (hi); have n1_ := Aside0.mk (hb); (try clear HI); (try clear HB); have HI := n0_; have HB := n1_; clear n0_ n1_; have hcz29_0 := Go.Proofs.Ytecjbogconeilaa.Note.IsN.c0 HI.out; have hcz29_1 := Go.Proofs.Ytecjbogconeilaa.Note.IsN.c1 HI.out; have hcz29_2 := Go.Proofs.Ytecjbogconeilaa.Note.IsN.c2 HI.out; have hfz29_1 := Go.Proofs.Ytecjbogconeilaa.Note.IsN.fz HI.out 1; have hfz29_2 := Go.Proofs.Ytecjbogconeilaa.Note.IsN.fz HI.out 2; (try clear hi); (try clear hb)) | (go_at_call 88; (with_reducible refine (IHR.out g s i (.slice Av xs.length cv) xs true i2 xs2 w0 _ (by (repeat (first | (with_reducible first | exact HI.out | apply Go.Proofs.Ytecjbogconeilaa.Note.IsN.drewN | apply Go.Proofs.Ytecjbogconeilaa.Note.IsN.drew | apply Go.Proofs.Ytecjbogconeilaa.Note.IsN.set_1) | exact HI.out)); done) (by repeat (first | (with_reducible first | exact HB.out | apply below_alloc | apply pw_below_drewN | apply below_drew1 | refine below_set ?_ (Go.Proofs.Ytecjbogconeilaa.Note.IsN.ge HI.out)) | exact HB.out)) A1.out).mono ?_); rintro e w30 ⟨v_, rfl, hi, hb⟩; obtain ⟨Av2, cv2, rfl⟩ := Kd.R_slice (Go.Proofs.Ytecjbogconeilaa.Note.IsN.row hi); have n0_ := Aside0.mk (hi); have n1_ := Aside0.mk (hb); (try clear HI); (try clear HB); have HI := n0_; have HB := n1_; clear n0_ n1_; have hcz30_0 := Go.Proofs.Ytecjbogconeilaa.Note.IsN.c0 HI.out; have hcz30_1 := Go.Proofs.Ytecjbogconeilaa.Note.IsN.c1 HI.out; have hcz30_2 := Go.Proofs.Ytecjbogconeilaa.Note.IsN.c2 HI.out; have hfz30_1 := Go.Proofs.Ytecjbogconeilaa.Note.IsN.fz HI.out 1; have hfz30_2 := Go.Proofs.Ytecjbogconeilaa.Note.IsN.fz HI.out 2; (try clear hi); (try clear hb); have tkr_ := Aside0.mk trivial) | (go_at_call 142; (with_reducible refine (impl_notation_read.next_calls g s i2 (.slice Av2 xs2.length cv2) xs2 38 w0 _ (by (repeat (first | (with_reducible first | exact HI.out | apply Go.Proofs.Ytecjbogconeilaa.Note.IsN.drewN | apply Go.Proofs.Ytecjbogconeilaa.Note.IsN.drew | apply Go.Proofs.Ytecjbogconeilaa.Note.IsN.set_1) | exact HI.out)); done) (by repeat (first | (with_reducible first | exact HB.out | apply below_alloc | apply pw_below_drewN | apply below_drew1 | refine below_set ?_ (Go.Proofs.Ytecjbogconeilaa.Note.IsN.ge HI.out)) | exact HB.out)) A2.out).mono ?_); rintro e w31 ⟨rfl, hi, hb⟩; have n0_ := Aside0.mk (hi); have n1_ := Aside0.mk (hb); (try clear HI); (try clear HB); have HI := n0_; have HB := n1_; clear n0_ n1_; have hcz31_0 := Go.Proofs.Ytecjbogconeilaa.Note.IsN.c0 HI.out; have hcz31_1 := Go.Proofs.Ytecjbogconeilaa.Note.IsN.c1 HI.out; have hcz31_2 := Go.Proofs.Ytecjbogconeilaa.Note.IsN.c2 HI.out; have hfz31_1 := Go.Proofs.Ytecjbogconeilaa.Note.IsN.fz HI.out 1; have hfz31_2 := Go.Proofs.Ytecjbogconeilaa.Note.IsN.fz HI.out 2; (try clear hi); (try clear hb); have tkn_ := Aside0.mk trivial))
          go_ret
          exact ⟨(.slice Av3 xs3.length cv3), by first | rfl | (simp [*]; done), by (repeat (first | (with_reducible first | exact HI.out | apply Go.Proofs.Ytecjbogconeilaa.Note.IsN.drewN | apply Go.Proofs.Ytecjbogconeilaa.Note.IsN.drew | apply Go.Proofs.Ytecjbogconeilaa.Note.IsN.set_1) | exact HI.out)); done, by repeat (first | (with_reducible first | exact HB.out | apply below_alloc | apply pw_below_drewN | apply below_drew1 | refine below_set ?_ (Go.Proofs.Ytecjbogconeilaa.Note.IsN.ge HI.out)) | exact HB.out)⟩
        | true =>
          rw [if_pos rfl] at H
          replace H := Option.bind_eq_some_iff.mp H
          obtain ⟨d, a_, H⟩ := H
          have A4 := Aside0.mk a_
          clear a_
          try simp only at H
          by_cases k7 : d = 41
          · subst k7
            rw [if_pos rfl] at H
            by_cases cl : xs3.length < 17592186044416
            · rw [if_pos cl] at H
              have LM := Aside0.mk (show (xs3.length + 1) * 8 ≤ 140737488355328 by omega)
              clear cl
              simp only [Option.some.injEq, Prod.mk.injEq] at H
              obtain ⟨rfl, rfl, hY⟩ := H
              have NY := Aside0.mk hY
              clear hY
              go_enter Try.func143, Try.ntmps143
              go_wp2_with (first | (go_at_call 88; clear tkr_; (with_reducible refine (IHR1.out g s (wrap64 (i2 + 1)) (.slice Av2 xs2.length cv2) xs2 true i3 xs3 w0 _ (by (repeat (first | (with_reducible first | exact HI.out | apply Go.Proofs.Ytecjbogconeilaa.Note.IsN.drewN | apply Go.Proofs.Ytecjbogconeilaa.Note.IsN.drew | apply Go.Proofs.Ytecjbogconeilaa.Note.IsN.set_1) | exact HI.out)); done) (by repeat (first | (with_reducible first | exact HB.out | apply below_alloc | apply pw_below_drewN | apply below_drew1 | refine below_set ?_ (Go.Proofs.Ytecjbogconeilaa.Note.IsN.ge HI.out)) | exact HB.out)) A3.out).mono ?_); rintro e w32 ⟨v_, rfl, hi, hb⟩; obtain ⟨Av3, cv3, rfl⟩ := Kd.R_slice (Go.Proofs.Ytecjbogconeilaa.Note.IsN.row hi); have n0_ := Aside0.mk (hi); have n1_ := Aside0.mk (hb); (try clear HI); (try clear HB); have HI := n0_; have HB := n1_; clear n0_ n1_; have hcz32_0 := Go.Proofs.Ytecjbogconeilaa.Note.IsN.c0 HI.out; have hcz32_1 := Go.Proofs.Ytecjbogconeilaa.Note.IsN.c1 HI.out; have hcz32_2 := Go.Proofs.Ytecjbogconeilaa.Note.IsN.c2 HI.out; have hfz32_1 := Go.Proofs.Ytecjbogconeilaa.Note.IsN.fz HI.out 1; have hfz32_2 := Go.Proofs.Ytecjbogconeilaa.Note.IsN.fz HI.out 2; (try clear hi); (try clear hb)) | (go_at_call 142; clear tkn_; (with_reducible refine (impl_notation_read.next_calls g s i3 (.slice Av3 xs3.length cv3) xs3 41 w0 _ (by (repeat (first | (with_reducible first | exact HI.out | apply Go.Proofs.Ytecjbogconeilaa.Note.IsN.drewN | apply Go.Proofs.Ytecjbogconeilaa.Note.IsN.drew | apply Go.Proofs.Ytecjbogconeilaa.Note.IsN.set_1) | exact HI.out)); done) (by repeat (first | (with_reducible first | exact HB.out | apply below_alloc | apply pw_below_drewN | apply below_drew1 | refine below_set ?_ (Go.Proofs.Ytecjbogconeilaa.Note.IsN.ge HI.out)) | exact HB.out)) A4.out).mono ?_); rintro e w33 ⟨rfl, hi, hb⟩; have n0_ := Aside0.mk (hi); have n1_ := Aside0.mk (hb); (try clear HI); (try clear HB); have HI := n0_; have HB := n1_; clear n0_ n1_; have hcz33_0 := Go.Proofs.Ytecjbogconeilaa.Note.IsN.c0 HI.out; have hcz33_1 := Go.Proofs.Ytecjbogconeilaa.Note.IsN.c1 HI.out; have hcz33_2 := Go.Proofs.Ytecjbogconeilaa.Note.IsN.c2 HI.out; have hfz33_1 := Go.Proofs.Ytecjbogconeilaa.Note.IsN.fz HI.out 1; have hfz33_2 := Go.Proofs.Ytecjbogconeilaa.Note.IsN.fz HI.out 2; (try clear hi); (try clear hb)) | (go_at_call 88; (with_reducible refine (IHR.out g s i (.slice Av xs.length cv) xs true i2 xs2 w0 _ (by (repeat (first | (with_reducible first | exact HI.out | apply Go.Proofs.Ytecjbogconeilaa.Note.IsN.drewN | apply Go.Proofs.Ytecjbogconeilaa.Note.IsN.drew | apply Go.Proofs.Ytecjbogconeilaa.Note.IsN.set_1) | exact HI.out)); done) (by repeat (first | (with_reducible first | exact HB.out | apply below_alloc | apply pw_below_drewN | apply below_drew1 | refine below_set ?_ (Go.Proofs.Ytecjbogconeilaa.Note.IsN.ge HI.out)) | exact HB.out)) A1.out).mono ?_); rintro e w34 ⟨v_, rfl, hi, hb⟩; obtain ⟨Av2, cv2, rfl⟩ := Kd.R_slice (Go.Proofs.Ytecjbogconeilaa.Note.IsN.row hi); have n0_ := Aside0.mk (hi); have n1_ := Aside0.mk (hb); (try clear HI); (try clear HB); have HI := n0_; have HB := n1_; clear n0_ n1_; have hcz34_0 := Go.Proofs.Ytecjbogconeilaa.Note.IsN.c0 HI.out; have hcz34_1 := Go.Proofs.Ytecjbogconeilaa.Note.IsN.c1 HI.out; have hcz34_2 := Go.Proofs.Ytecjbogconeilaa.Note.IsN.c2 HI.out; have hfz34_1 := Go.Proofs.Ytecjbogconeilaa.Note.IsN.fz HI.out 1; have hfz34_2 := Go.Proofs.Ytecjbogconeilaa.Note.IsN.fz HI.out 2; (try clear hi); (try clear hb); have tkr_ := Aside0.mk trivial) | (go_at_call 142; (with_reducible refine (impl_notation_read.next_calls g s i2 (.slice Av2 xs2.length cv2) xs2 38 w0 _ (by (repeat (first | (with_reducible first | exact HI.out | apply Go.Proofs.Ytecjbogconeilaa.Note.IsN.drewN | apply Go.Proofs.Ytecjbogconeilaa.Note.IsN.drew | apply Go.Proofs.Ytecjbogconeilaa.Note.IsN.set_1) | exact HI.out)); done) (by repeat (first | (with_reducible first | exact HB.out | apply below_alloc | apply pw_below_drewN | apply below_drew1 | refine below_set ?_ (Go.Proofs.Ytecjbogconeilaa.Note.IsN.ge HI.out)) | exact HB.out)) A2.out).mono ?_); rintro e w35 ⟨rfl, hi, hb⟩; have n0_ := Aside0.mk (hi); have n1_ := Aside0.mk (hb); (try clear HI); (try clear HB); have HI := n0_; have HB := n1_; clear n0_ n1_; have hcz35_0 := Go.Proofs.Ytecjbogconeilaa.Note.IsN.c0 HI.out; have hcz35_1 := Go.Proofs.Ytecjbogconeilaa.Note.IsN.c1 HI.out; have hcz35_2 := Go.Proofs.Ytecjbogconeilaa.Note.IsN.c2 HI.out; have hfz35_1 := Go.Proofs.Ytecjbogconeilaa.Note.IsN.fz HI.out 1; have hfz35_2 := Go.Proofs.Ytecjbogconeilaa.Note.IsN.fz HI.out 2; (try clear hi); (try clear hb); have tkn_ := Aside0.mk trivial) | ((with_reducible refine gate_builtin (b := .append) (xs := #[.tmp 39, .tmp 41]) rfl ?_); at_builtin; refine Kd.R_append (Kd.int .i64) (w0 := w0) w0.heap.size rfl (.tmp 39) (.tmp 41) 24 3 (.int .i64 0) 8 rfl Try.underlying24 info3 rfl (by decide) (by omega) (.slice Av3 xs3.length cv3) xs3 (-2) [.int .i64 (-2)] (fun _ => True) (fun _ => False) rfl (by first | rfl | (show Value.slice (some ⟨_, 0, none⟩) 1 1 = _; simp [World.setCell])) ?aP (fun _ hk => hk.elim) ?aF ?aO ?aB ?aS ?aL ?_; (case aP => exact rfl); (case aF => exact (fun _ _ => trivial)); (case aO => exact Go.Proofs.Ytecjbogconeilaa.Note.IsN.row (by (repeat (first | (with_reducible first | exact HI.out | apply Go.Proofs.Ytecjbogconeilaa.Note.IsN.drewN | apply Go.Proofs.Ytecjbogconeilaa.Note.IsN.drew | apply Go.Proofs.Ytecjbogconeilaa.Note.IsN.set_1) | exact HI.out)); done)); (case aB => exact (by repeat (first | (with_reducible first | exact HB.out | apply below_alloc | apply pw_below_drewN | apply below_drew1 | refine below_set ?_ (Go.Proofs.Ytecjbogconeilaa.Note.IsN.ge HI.out)) | exact HB.out))); (case aS => exact (below_size (by repeat (first | (with_reducible first | exact HB.out | apply below_alloc | apply pw_below_drewN | apply below_drew1 | refine below_set ?_ (Go.Proofs.Ytecjbogconeilaa.Note.IsN.ge HI.out)) | exact HB.out)))); (case aL => exact LM.out); intro v9 w36 ho hb hg hat_; rw [NY.out] at ho; obtain ⟨A9, c9, rfl⟩ := Kd.R_slice ho; have n0_ := Aside0.mk (show Go.Proofs.Ytecjbogconeilaa.Note.IsM 3 65 w0 w36 g s (wrap64 (i3 + 1)) (.slice Av3 xs3.length cv3) (.slice A9 xs'.length c9) xs' from Go.Proofs.Ytecjbogconeilaa.Note.IsN.grow (show Go.Proofs.Ytecjbogconeilaa.Note.IsN 3 65 w0 _ g s (wrap64 (i3 + 1)) (.slice Av3 xs3.length cv3) xs3 from by (repeat (first | (with_reducible first | exact HI.out | apply Go.Proofs.Ytecjbogconeilaa.Note.IsN.drewN | apply Go.Proofs.Ytecjbogconeilaa.Note.IsN.drew | apply Go.Proofs.Ytecjbogconeilaa.Note.IsN.set_1) | exact HI.out)); done) hg ho); have n1_ := Aside0.mk hb; clear HB; have HM := n0_; have HB := n1_; clear n0_ n1_ ho hb hg hat_; have hcm_ := Go.Proofs.Ytecjbogconeilaa.Note.IsM.c2 HM.out; have hfm_ := Go.Proofs.Ytecjbogconeilaa.Note.IsM.fz HM.out 2))
              go_ret
              exact ⟨(.slice A9 xs'.length c9), by first | rfl | (simp [*]; done), by (repeat (first | (with_reducible first | exact HM.out | apply Go.Proofs.Ytecjbogconeilaa.Note.IsN.drewN | apply Go.Proofs.Ytecjbogconeilaa.Note.IsN.drew | apply Go.Proofs.Ytecjbogconeilaa.Note.IsN.set_1 | apply Go.Proofs.Ytecjbogconeilaa.Note.IsM.drewN | apply Go.Proofs.Ytecjbogconeilaa.Note.IsM.drew | apply Go.Proofs.Ytecjbogconeilaa.Note.IsM.set_2) | exact HM.out)); done, by repeat (first | (with_reducible first | exact HB.out | apply below_alloc | apply pw_below_drewN | apply below_drew1 | refine below_set ?_ (Go.Proofs.Ytecjbogconeilaa.Note.IsM.ge HM.out)) | exact HB.out)⟩
            · rw [if_neg cl] at H
              exact absurd H (by simp)
          · rw [if_neg k7] at H
            have k7b : (d == 41) = false := beq_eq_false_iff_ne.mpr k7
            have k7n : (d != 41) = true := bne_iff_ne.mpr k7
            clear k7
            simp only [Option.some.injEq, Prod.mk.injEq] at H
            obtain ⟨rfl, rfl, rfl⟩ := H
            go_enter Try.func143, Try.ntmps143
            go_wp2_with (first | (go_at_call 88; clear tkr_; (with_reducible refine (IHR1.out g s (wrap64 (i2 + 1)) (.slice Av2 xs2.length cv2) xs2 true i3 xs3 w0 _ (by (repeat (first | (with_reducible first | exact HI.out | apply Go.Proofs.Ytecjbogconeilaa.Note.IsN.drewN | apply Go.Proofs.Ytecjbogconeilaa.Note.IsN.drew | apply Go.Proofs.Ytecjbogconeilaa.Note.IsN.set_1) | exact HI.out)); done) (by repeat (first | (with_reducible first | exact HB.out | apply below_alloc | apply pw_below_drewN | apply below_drew1 | refine below_set ?_ (Go.Proofs.Ytecjbogconeilaa.Note.IsN.ge HI.out)) | exact HB.out)) A3.out).mono ?_); rintro e w37 ⟨v_, rfl, hi, hb⟩; obtain ⟨Av3, cv3, rfl⟩ := Kd.R_slice (Go.Proofs.Ytecjbogconeilaa.Note.IsN.row hi); have n0_ := Aside0.mk (hi); have n1_ := Aside0.mk (hb); (try clear HI); (try clear HB); have HI := n0_; have HB := n1_; clear n0_ n1_; have hcz37_0 := Go.Proofs.Ytecjbogconeilaa.Note.IsN.c0 HI.out; have hcz37_1 := Go.Proofs.Ytecjbogconeilaa.Note.IsN.c1 HI.out; have hcz37_2 := Go.Proofs.Ytecjbogconeilaa.Note.IsN.c2 HI.out; have hfz37_1 := Go.Proofs.Ytecjbogconeilaa.Note.IsN.fz HI.out 1; have hfz37_2 := Go.Proofs.Ytecjbogconeilaa.Note.IsN.fz HI.out 2; (try clear hi); (try clear hb)) | (go_at_call 142; clear tkn_; (with_reducible refine (impl_notation_read.next_calls g s i3 (.slice Av3 xs3.length cv3) xs3 d w0 _ (by (repeat (first | (with_reducible first | exact HI.out | apply Go.Proofs.Ytecjbogconeilaa.Note.IsN.drewN | apply Go.Proofs.Ytecjbogconeilaa.Note.IsN.drew | apply Go.Proofs.Ytecjbogconeilaa.Note.IsN.set_1) | exact HI.out)); done) (by repeat (first | (with_reducible first | exact HB.out | apply below_alloc | apply pw_below_drewN | apply below_drew1 | refine below_set ?_ (Go.Proofs.Ytecjbogconeilaa.Note.IsN.ge HI.out)) | exact HB.out)) A4.out).mono ?_); rintro e w38 ⟨rfl, hi, hb⟩; have n0_ := Aside0.mk (hi); have n1_ := Aside0.mk (hb); (try clear HI); (try clear HB); have HI := n0_; have HB := n1_; clear n0_ n1_; have hcz38_0 := Go.Proofs.Ytecjbogconeilaa.Note.IsN.c0 HI.out; have hcz38_1 := Go.Proofs.Ytecjbogconeilaa.Note.IsN.c1 HI.out; have hcz38_2 := Go.Proofs.Ytecjbogconeilaa.Note.IsN.c2 HI.out; have hfz38_1 := Go.Proofs.Ytecjbogconeilaa.Note.IsN.fz HI.out 1; have hfz38_2 := Go.Proofs.Ytecjbogconeilaa.Note.IsN.fz HI.out 2; (try clear hi); (try clear hb)) | (go_at_call 88; (with_reducible refine (IHR.out g s i (.slice Av xs.length cv) xs true i2 xs2 w0 _ (by (repeat (first | (with_reducible first | exact HI.out | apply Go.Proofs.Ytecjbogconeilaa.Note.IsN.drewN | apply Go.Proofs.Ytecjbogconeilaa.Note.IsN.drew | apply Go.Proofs.Ytecjbogconeilaa.Note.IsN.set_1) | exact HI.out)); done) (by repeat (first | (with_reducible first | exact HB.out | apply below_alloc | apply pw_below_drewN | apply below_drew1 | refine below_set ?_ (Go.Proofs.Ytecjbogconeilaa.Note.IsN.ge HI.out)) | exact HB.out)) A1.out).mono ?_); rintro e w39 ⟨v_, rfl, hi, hb⟩; obtain ⟨Av2, cv2, rfl⟩ := Kd.R_slice (Go.Proofs.Ytecjbogconeilaa.Note.IsN.row hi); have n0_ := Aside0.mk (hi); have n1_ := Aside0.mk (hb); (try clear HI); (try clear HB); have HI := n0_; have HB := n1_; clear n0_ n1_; have hcz39_0 := Go.Proofs.Ytecjbogconeilaa.Note.IsN.c0 HI.out; have hcz39_1 := Go.Proofs.Ytecjbogconeilaa.Note.IsN.c1 HI.out; have hcz39_2 := Go.Proofs.Ytecjbogconeilaa.Note.IsN.c2 HI.out; have hfz39_1 := Go.Proofs.Ytecjbogconeilaa.Note.IsN.fz HI.out 1; have hfz39_2 := Go.Proofs.Ytecjbogconeilaa.Note.IsN.fz HI.out 2; (try clear hi); (try clear hb); have tkr_ := Aside0.mk trivial) | (go_at_call 142; (with_reducible refine (impl_notation_read.next_calls g s i2 (.slice Av2 xs2.length cv2) xs2 38 w0 _ (by (repeat (first | (with_reducible first | exact HI.out | apply Go.Proofs.Ytecjbogconeilaa.Note.IsN.drewN | apply Go.Proofs.Ytecjbogconeilaa.Note.IsN.drew | apply Go.Proofs.Ytecjbogconeilaa.Note.IsN.set_1) | exact HI.out)); done) (by repeat (first | (with_reducible first | exact HB.out | apply below_alloc | apply pw_below_drewN | apply below_drew1 | refine below_set ?_ (Go.Proofs.Ytecjbogconeilaa.Note.IsN.ge HI.out)) | exact HB.out)) A2.out).mono ?_); rintro e w40 ⟨rfl, hi, hb⟩; have n0_ := Aside0.mk (hi); have n1_ := Aside0.mk (hb); (try clear HI); (try clear HB); have HI := n0_; have HB := n1_; clear n0_ n1_; have hcz40_0 := Go.Proofs.Ytecjbogconeilaa.Note.IsN.c0 HI.out; have hcz40_1 := Go.Proofs.Ytecjbogconeilaa.Note.IsN.c1 HI.out; have hcz40_2 := Go.Proofs.Ytecjbogconeilaa.Note.IsN.c2 HI.out; have hfz40_1 := Go.Proofs.Ytecjbogconeilaa.Note.IsN.fz HI.out 1; have hfz40_2 := Go.Proofs.Ytecjbogconeilaa.Note.IsN.fz HI.out 2; (try clear hi); (try clear hb); have tkn_ := Aside0.mk trivial))
            go_ret
            exact ⟨(.slice Av3 xs3.length cv3), by first | rfl | (simp [*]; done), by (repeat (first | (with_reducible first | exact HI.out | apply Go.Proofs.Ytecjbogconeilaa.Note.IsN.drewN | apply Go.Proofs.Ytecjbogconeilaa.Note.IsN.drew | apply Go.Proofs.Ytecjbogconeilaa.Note.IsN.set_1) | exact HI.out)); done, by repeat (first | (with_reducible first | exact HB.out | apply below_alloc | apply pw_below_drewN | apply below_drew1 | refine below_set ?_ (Go.Proofs.Ytecjbogconeilaa.Note.IsN.ge HI.out)) | exact HB.out)⟩
    · rw [if_neg k5] at H
      have k5b : (c == 38) = false := beq_eq_false_iff_ne.mpr k5
      have k5n : (c != 38) = true := bne_iff_ne.mpr k5
      clear k5
      by_cases k6 : c = 124
      · subst k6
        rw [if_pos rfl] at H
        cases k with
        | zero => exact absurd H (by simp [impl_notation_read.tail])
        | succ k =>
          simp only [Nat.add_sub_cancel] at IHR1
          simp only [impl_notation_read.tail] at H
          replace H := Option.bind_eq_some_iff.mp H
          obtain ⟨⟨b2, i3, xs3⟩, a_, H⟩ := H
          have A3 := Aside0.mk a_
          clear a_
          try simp only at H
          cases b2 with
          | false =>
            rw [if_neg (by simp)] at H
            simp only [Option.some.injEq, Prod.mk.injEq] at H
            obtain ⟨rfl, rfl, rfl⟩ := H
            go_enter Try.func143, Try.ntmps143
            go_wp2_with (first | (go_at_call 88; clear tkr_; (with_reducible refine (IHR1.out g s (wrap64 (i2 + 1)) (.slice Av2 xs2.length cv2) xs2 false i3 xs3 w0 _ (by (repeat (first | (with_reducible first | exact HI.out | apply Go.Proofs.Ytecjbogconeilaa.Note.IsN.drewN | apply Go.Proofs.Ytecjbogconeilaa.Note.IsN.drew | apply Go.Proofs.Ytecjbogconeilaa.Note.IsN.set_1) | exact HI.out)); done) (by repeat (first | (with_reducible first | exact HB.out | apply below_alloc | apply pw_below_drewN | apply below_drew1 | refine below_set ?_ (Go.Proofs.Ytecjbogconeilaa.Note.IsN.ge HI.out)) | exact HB.out)) A3.out).mono ?_); rintro e w41 ⟨v_, rfl, hi, hb⟩; obtain ⟨Av3, cv3, rfl⟩ := Kd.R_slice (Go.Proofs.Ytecjbogconeilaa.Note.IsN.row hi); have n0_ := Aside0.mk (hi); have n1_ := Aside0.mk (hb); (try clear HI); (try clear HB); have HI := n0_; have HB := n1_; clear n0_ n1_; have hcz41_0 := Go.Proofs.Ytecjbogconeilaa.Note.IsN.c0 HI.out; have hcz41_1 := Go.Proofs.Ytecjbogconeilaa.Note.IsN.c1 HI.out; have hcz41_2 := Go.Proofs.Ytecjbogconeilaa.Note.IsN.c2 HI.out; have hfz41_1 := Go.Proofs.Ytecjbogconeilaa.Note.IsN.fz HI.out 1; have hfz41_2 := Go.Proofs.Ytecjbogconeilaa.Note.IsN.fz HI.out 2; (try clear hi); (try clear hb)) | (go_at_call 88; (with_reducible refine (IHR.out g s i (.slice Av xs.length cv) xs true i2 xs2 w0 _ (by (repeat (first | (with_reducible first | exact HI.out | apply Go.Proofs.Ytecjbogconeilaa.Note.IsN.drewN | apply Go.Proofs.Ytecjbogconeilaa.Note.IsN.drew | apply Go.Proofs.Ytecjbogconeilaa.Note.IsN.set_1) | exact HI.out)); done) (by repeat (first | (with_reducible first | exact HB.out | apply below_alloc | apply pw_below_drewN | apply below_drew1 | refine below_set ?_ (Go.Proofs.Ytecjbogconeilaa.Note.IsN.ge HI.out)) | exact HB.out)) A1.out).mono ?_); rintro e w42 ⟨v_, rfl, hi, hb⟩; obtain ⟨Av2, cv2, rfl⟩ := Kd.R_slice (Go.Proofs.Ytecjbogconeilaa.Note.IsN.row hi); have n0_ := Aside0.mk (hi); have n1_ := Aside0.mk (hb); (try clear HI); (try clear HB); have HI := n0_; have HB := n1_; clear n0_ n1_; have hcz42_0 := Go.Proofs.Ytecjbogconeilaa.Note.IsN.c0 HI.out; have hcz42_1 := Go.Proofs.Ytecjbogconeilaa.Note.IsN.c1 HI.out; have hcz42_2 := Go.Proofs.Ytecjbogconeilaa.Note.IsN.c2 HI.out; have hfz42_1 := Go.Proofs.Ytecjbogconeilaa.Note.IsN.fz HI.out 1; have hfz42_2 := Go.Proofs.Ytecjbogconeilaa.Note.IsN.fz HI.out 2; (try clear hi); (try clear hb); have tkr_ := Aside0.mk trivial) | (go_at_call 142; (with_reducible refine (impl_notation_read.next_calls g s i2 (.slice Av2 xs2.length cv2) xs2 124 w0 _ (by (repeat (first | (with_reducible first | exact HI.out | apply Go.Proofs.Ytecjbogconeilaa.Note.IsN.drewN | apply Go.Proofs.Ytecjbogconeilaa.Note.IsN.drew | apply Go.Proofs.Ytecjbogconeilaa.Note.IsN.set_1) | exact HI.out)); done) (by repeat (first | (with_reducible first | exact HB.out | apply below_alloc | apply pw_below_drewN | apply below_drew1 | refine below_set ?_ (Go.Proofs.Ytecjbogconeilaa.Note.IsN.ge HI.out)) | exact HB.out)) A2.out).mono ?_); rintro e w43 ⟨rfl, hi, hb⟩; have n0_ := Aside0.mk (hi); have n1_ := Aside0.mk (hb); (try clear HI); (try clear HB); have HI := n0_; have HB := n1_; clear n0_ n1_; have hcz43_0 := Go.Proofs.Ytecjbogconeilaa.Note.IsN.c0 HI.out; have hcz43_1 := Go.Proofs.Ytecjbogconeilaa.Note.IsN.c1 HI.out; have hcz43_2 := Go.Proofs.Ytecjbogconeilaa.Note.IsN.c2 HI.out; have hfz43_1 := Go.Proofs.Ytecjbogconeilaa.Note.IsN.fz HI.out 1; have hfz43_2 := Go.Proofs.Ytecjbogconeilaa.Note.IsN.fz HI.out 2; (try clear hi); (try clear hb); have tkn_ := Aside0.mk trivial))
            go_ret
            exact ⟨(.slice Av3 xs3.length cv3), by first | rfl | (simp [*]; done), by (repeat (first | (with_reducible first | exact HI.out | apply Go.Proofs.Ytecjbogconeilaa.Note.IsN.drewN | apply Go.Proofs.Ytecjbogconeilaa.Note.IsN.drew | apply Go.Proofs.Ytecjbogconeilaa.Note.IsN.set_1) | exact HI.out)); done, by repeat (first | (with_reducible first | exact HB.out | apply below_alloc | apply pw_below_drewN | apply below_drew1 | refine below_set ?_ (Go.Proofs.Ytecjbogconeilaa.Note.IsN.ge HI.out)) | exact HB.out)⟩
          | true =>
            rw [if_pos rfl] at H
            replace H := Option.bind_eq_some_iff.mp H
            obtain ⟨d, a_, H⟩ := H
            have A4 := Aside0.mk a_
            clear a_
            try simp only at H
            by_cases k7 : d = 41
            · subst k7
              rw [if_pos rfl] at H
              by_cases cl : xs3.length < 17592186044416
              · rw [if_pos cl] at H
                have LM := Aside0.mk (show (xs3.length + 1) * 8 ≤ 140737488355328 by omega)
                clear cl
                simp only [Option.some.injEq, Prod.mk.injEq] at H
                obtain ⟨rfl, rfl, hY⟩ := H
                have NY := Aside0.mk hY
                clear hY
                go_enter Try.func143, Try.ntmps143
                go_wp2_with (first | (go_at_call 88; clear tkr_; (with_reducible refine (IHR1.out g s (wrap64 (i2 + 1)) (.slice Av2 xs2.length cv2) xs2 true i3 xs3 w0 _ (by (repeat (first | (with_reducible first | exact HI.out | apply Go.Proofs.Ytecjbogconeilaa.Note.IsN.drewN | apply Go.Proofs.Ytecjbogconeilaa.Note.IsN.drew | apply Go.Proofs.Ytecjbogconeilaa.Note.IsN.set_1) | exact HI.out)); done) (by repeat (first | (with_reducible first | exact HB.out | apply below_alloc | apply pw_below_drewN | apply below_drew1 | refine below_set ?_ (Go.Proofs.Ytecjbogconeilaa.Note.IsN.ge HI.out)) | exact HB.out)) A3.out).mono ?_); rintro e w44 ⟨v_, rfl, hi, hb⟩; obtain ⟨Av3, cv3, rfl⟩ := Kd.R_slice (Go.Proofs.Ytecjbogconeilaa.Note.IsN.row hi); have n0_ := Aside0.mk (hi); have n1_ := Aside0.mk (hb); (try clear HI); (try clear HB); have HI := n0_; have HB := n1_; clear n0_ n1_; have hcz44_0 := Go.Proofs.Ytecjbogconeilaa.Note.IsN.c0 HI.out; have hcz44_1 := Go.Proofs.Ytecjbogconeilaa.Note.IsN.c1 HI.out; have hcz44_2 := Go.Proofs.Ytecjbogconeilaa.Note.IsN.c2 HI.out; have hfz44_1 := Go.Proofs.Ytecjbogconeilaa.Note.IsN.fz HI.out 1; have hfz44_2 := Go.Proofs.Ytecjbogconeilaa.Note.IsN.fz HI.out 2; (try clear hi); (try clear hb)) | (go_at_call 142; clear tkn_; (with_reducible refine (impl_notation_read.next_calls g s i3 (.slice Av3 xs3.length cv3) xs3 41 w0 _ (by (repeat (first | (with_reducible first | exact HI.out | apply Go.Proofs.Ytecjbogconeilaa.Note.IsN.drewN | apply Go.Proofs.Ytecjbogconeilaa.Note.IsN.drew | apply Go.Proofs.Ytecjbogconeilaa.Note.IsN.set_1) | exact HI.out)); done) (by repeat (first | (with_reducible first | exact HB.out | apply below_alloc | apply pw_below_drewN | apply below_drew1 | refine below_set ?_ (Go.Proofs.Ytecjbogconeilaa.Note.IsN.ge HI.out)) | exact HB.out)) A4.out).mono ?_); rintro e w45 ⟨rfl, hi, hb⟩; have n0_ := Aside0.mk (hi); have n1_ := Aside0.mk (hb); (try clear HI); (try clear HB); have HI := n0_; have HB := n1_; clear n0_ n1_; have hcz45_0 := Go.Proofs.Ytecjbogconeilaa.Note.IsN.c0 HI.out; have hcz45_1 := Go.Proofs.Ytecjbogconeilaa.Note.IsN.c1 HI.out; have hcz45_2 := Go.Proofs.Ytecjbogconeilaa.Note.IsN.c2 HI.out; have hfz45_1 := Go.Proofs.Ytecjbogconeilaa.Note.IsN.fz HI.out 1; have hfz45_2 := Go.Proofs.Ytecjbogconeilaa.Note.IsN.fz HI.out 2; (try clear hi); (try clear hb)) | (go_at_call 88; (with_reducible refine (IHR.out g s i (.slice Av xs.length cv) xs true i2 xs2 w0 _ (by (repeat (first | (with_reducible first | exact HI.out | apply Go.Proofs.Ytecjbogconeilaa.Note.IsN.drewN | apply Go.Proofs.Ytecjbogconeilaa.Note.IsN.drew | apply Go.Proofs.Ytecjbogconeilaa.Note.IsN.set_1) | exact HI.out)); done) (by repeat (first | (with_reducible first | exact HB.out | apply below_alloc | apply pw_below_drewN | apply below_drew1 | refine below_set ?_ (Go.Proofs.Ytecjbogconeilaa.Note.IsN.ge HI.out)) | exact HB.out)) A1.out).mono ?_); rintro e w46 ⟨v_, rfl, hi, hb⟩; obtain ⟨Av2, cv2, rfl⟩ := Kd.R_slice (Go.Proofs.Ytecjbogconeilaa.Note.IsN.row hi); have n0_ := Aside0.mk (hi); have n1_ := Aside0.mk (hb); (try clear HI); (try clear HB); have HI := n0_; have HB := n1_; clear n0_ n1_; have hcz46_0 := Go.Proofs.Ytecjbogconeilaa.Note.IsN.c0 HI.out; have hcz46_1 := Go.Proofs.Ytecjbogconeilaa.Note.IsN.c1 HI.out; have hcz46_2 := Go.Proofs.Ytecjbogconeilaa.Note.IsN.c2 HI.out; have hfz46_1 := Go.Proofs.Ytecjbogconeilaa.Note.IsN.fz HI.out 1; have hfz46_2 := Go.Proofs.Ytecjbogconeilaa.Note.IsN.fz HI.out 2; (try clear hi); (try clear hb); have tkr_ := Aside0.mk trivial) | (go_at_call 142; (with_reducible refine (impl_notation_read.next_calls g s i2 (.slice Av2 xs2.length cv2) xs2 124 w0 _ (by (repeat (first | (with_reducible first | exact HI.out | apply Go.Proofs.Ytecjbogconeilaa.Note.IsN.drewN | apply Go.Proofs.Ytecjbogconeilaa.Note.IsN.drew | apply Go.Proofs.Ytecjbogconeilaa.Note.IsN.set_1) | exact HI.out)); done) (by repeat (first | (with_reducible first | exact HB.out | apply below_alloc | apply pw_below_drewN | apply below_drew1 | refine below_set ?_ (Go.Proofs.Ytecjbogconeilaa.Note.IsN.ge HI.out)) | exact HB.out)) A2.out).mono ?_); rintro e w47 ⟨rfl, hi, hb⟩; have n0_ := Aside0.mk (hi); have n1_ := Aside0.mk (hb); (try clear HI); (try clear HB); have HI := n0_; have HB := n1_; clear n0_ n1_; have hcz47_0 := Go.Proofs.Ytecjbogconeilaa.Note.IsN.c0 HI.out; have hcz47_1 := Go.Proofs.Ytecjbogconeilaa.Note.IsN.c1 HI.out; have hcz47_2 := Go.Proofs.Ytecjbogconeilaa.Note.IsN.c2 HI.out; have hfz47_1 := Go.Proofs.Ytecjbogconeilaa.Note.IsN.fz HI.out 1; have hfz47_2 := Go.Proofs.Ytecjbogconeilaa.Note.IsN.fz HI.out 2; (try clear hi); (try clear hb); have tkn_ := Aside0.mk trivial) | ((with_reducible refine gate_builtin (b := .append) (xs := #[.tmp 39, .tmp 41]) rfl ?_); at_builtin; refine Kd.R_append (Kd.int .i64) (w0 := w0) w0.heap.size rfl (.tmp 39) (.tmp 41) 24 3 (.int .i64 0) 8 rfl Try.underlying24 info3 rfl (by decide) (by omega) (.slice Av3 xs3.length cv3) xs3 (-3) [.int .i64 (-3)] (fun _ => True) (fun _ => False) rfl (by first | rfl | (show Value.slice (some ⟨_, 0, none⟩) 1 1 = _; simp [World.setCell])) ?aP (fun _ hk => hk.elim) ?aF ?aO ?aB ?aS ?aL ?_; (case aP => exact rfl); (case aF => exact (fun _ _ => trivial)); (case aO => exact Go.Proofs.Ytecjbogconeilaa.Note.IsN.row (by (repeat (first | (with_reducible first | exact HI.out | apply Go.Proofs.Ytecjbogconeilaa.Note.IsN.drewN | apply Go.Proofs.Ytecjbogconeilaa.Note.IsN.drew | apply Go.Proofs.Ytecjbogconeilaa.Note.IsN.set_1) | exact HI.out)); done)); (case aB => exact (by repeat (first | (with_reducible first | exact HB.out | apply below_alloc | apply pw_below_drewN | apply below_drew1 | refine below_set ?_ (Go.Proofs.Ytecjbogconeilaa.Note.IsN.ge HI.out)) | exact HB.out))); (case aS => exact (below_size (by repeat (first | (with_reducible first | exact HB.out | apply below_alloc | apply pw_below_drewN | apply below_drew1 | refine below_set ?_ (Go.Proofs.Ytecjbogconeilaa.Note.IsN.ge HI.out)) | exact HB.out)))); (case aL => exact LM.out); intro v9 w48 ho hb hg hat_; rw [NY.out] at ho; obtain ⟨A9, c9, rfl⟩ := Kd.R_slice ho; have n0_ := Aside0.mk (show Go.Proofs.Ytecjbogconeilaa.Note.IsM 3 65 w0 w48 g s (wrap64 (i3 + 1)) (.slice Av3 xs3.length cv3) (.slice A9 xs'.length c9) xs' from Go.Proofs.Ytecjbogconeilaa.Note.IsN.grow (show Go.Proofs.Ytecjbogconeilaa.Note.IsN 3 65 w0 _ g s (wrap64 (i3 + 1)) (.slice Av3 xs3.length cv3) xs3 from by (repeat (first | (with_reducible first | exact HI.out | apply Go.Proofs.Ytecjbogconeilaa.Note.IsN.drewN | apply Go.Proofs.Ytecjbogconeilaa.Note.IsN.drew | apply Go.Proofs.Ytecjbogconeilaa.Note.IsN.set_1) | exact HI.out)); done) hg ho); have n1_ := Aside0.mk hb; clear HB; have HM := n0_; have HB := n1_; clear n0_ n1_ ho hb hg hat_; have hcm_ := Go.Proofs.Ytecjbogconeilaa.Note.IsM.c2 HM.out; have hfm_ := Go.Proofs.Ytecjbogconeilaa.Note.IsM.fz HM.out 2))
                go_ret
                exact ⟨(.slice A9 xs'.length c9), by first | rfl | (simp [*]; done), by (repeat (first | (with_reducible first | exact HM.out | apply Go.Proofs.Ytecjbogconeilaa.Note.IsN.drewN | apply Go.Proofs.Ytecjbogconeilaa.Note.IsN.drew | apply Go.Proofs.Ytecjbogconeilaa.Note.IsN.set_1 | apply Go.Proofs.Ytecjbogconeilaa.Note.IsM.drewN | apply Go.Proofs.Ytecjbogconeilaa.Note.IsM.drew | apply Go.Proofs.Ytecjbogconeilaa.Note.IsM.set_2) | exact HM.out)); done, by repeat (first | (with_reducible first | exact HB.out | apply below_alloc | apply pw_below_drewN | apply below_drew1 | refine below_set ?_ (Go.Proofs.Ytecjbogconeilaa.Note.IsM.ge HM.out)) | exact HB.out)⟩
              · rw [if_neg cl] at H
                exact absurd H (by simp)
            · rw [if_neg k7] at H
              have k7b : (d == 41) = false := beq_eq_false_iff_ne.mpr k7
              have k7n : (d != 41) = true := bne_iff_ne.mpr k7
              clear k7
              simp only [Option.some.injEq, Prod.mk.injEq] at H
              obtain ⟨rfl, rfl, rfl⟩ := H
              go_enter Try.func143, Try.ntmps143
              go_wp2_with (first | (go_at_call 88; clear tkr_; (with_reducible refine (IHR1.out g s (wrap64 (i2 + 1)) (.slice Av2 xs2.length cv2) xs2 true i3 xs3 w0 _ (by (repeat (first | (with_reducible first | exact HI.out | apply Go.Proofs.Ytecjbogconeilaa.Note.IsN.drewN | apply Go.Proofs.Ytecjbogconeilaa.Note.IsN.drew | apply Go.Proofs.Ytecjbogconeilaa.Note.IsN.set_1) | exact HI.out)); done) (by repeat (first | (with_reducible first | exact HB.out | apply below_alloc | apply pw_below_drewN | apply below_drew1 | refine below_set ?_ (Go.Proofs.Ytecjbogconeilaa.Note.IsN.ge HI.out)) | exact HB.out)) A3.out).mono ?_); rintro e w49 ⟨v_, rfl, hi, hb⟩; obtain ⟨Av3, cv3, rfl⟩ := Kd.R_slice (Go.Proofs.Ytecjbogconeilaa.Note.IsN.row hi); have n0_ := Aside0.mk (hi); have n1_ := Aside0.mk (hb); (try clear HI); (try clear HB); have HI := n0_; have HB := n1_; clear n0_ n1_; have hcz49_0 := Go.Proofs.Ytecjbogconeilaa.Note.IsN.c0 HI.out; have hcz49_1 := Go.Proofs.Ytecjbogconeilaa.Note.IsN.c1 HI.out; have hcz49_2 := Go.Proofs.Ytecjbogconeilaa.Note.IsN.c2 HI.out; have hfz49_1 := Go.Proofs.Ytecjbogconeilaa.Note.IsN.fz HI.out 1; have hfz49_2 := Go.Proofs.Ytecjbogconeilaa.Note.IsN.fz HI.out 2; (try clear hi); (try clear hb)) | (go_at_call 142; clear tkn_; (with_reducible refine (impl_notation_read.next_calls g s i3 (.slice Av3 xs3.length cv3) xs3 d w0 _ (by (repeat (first | (with_reducible first | exact HI.out | apply Go.Proofs.Ytecjbogconeilaa.Note.IsN.drewN | apply Go.Proofs.Ytecjbogconeilaa.Note.IsN.drew | apply Go.Proofs.Ytecjbogconeilaa.Note.IsN.set_1) | exact HI.out)); done) (by repeat (first | (with_reducible first | exact HB.out | apply below_alloc | apply pw_below_drewN | apply below_drew1 | refine below_set ?_ (Go.Proofs.Ytecjbogconeilaa.Note.IsN.ge HI.out)) | exact HB.out)) A4.out).mono ?_); rintro e w50 ⟨rfl, hi, hb⟩; have n0_ := Aside0.mk (hi); have n1_ := Aside0.mk (hb); (try clear HI); (try clear HB); have HI := n0_; have HB := n1_; clear n0_ n1_; have hcz50_0 := Go.Proofs.Ytecjbogconeilaa.Note.IsN.c0 HI.out; have hcz50_1 := Go.Proofs.Ytecjbogconeilaa.Note.IsN.c1 HI.out; have hcz50_2 := Go.Proofs.Ytecjbogconeilaa.Note.IsN.c2 HI.out; have hfz50_1 := Go.Proofs.Ytecjbogconeilaa.Note.IsN.fz HI.out 1; have hfz50_2 := Go.Proofs.Ytecjbogconeilaa.Note.IsN.fz HI.out 2; (try clear hi); (try clear hb)) | (go_at_call 88; (with_reducible refine (IHR.out g s i (.slice Av xs.length cv) xs true i2 xs2 w0 _ (by (repeat (first | (with_reducible first | exact HI.out | apply Go.Proofs.Ytecjbogconeilaa.Note.IsN.drewN | apply Go.Proofs.Ytecjbogconeilaa.Note.IsN.drew | apply Go.Proofs.Ytecjbogconeilaa.Note.IsN.set_1) | exact HI.out)); done) (by repeat (first | (with_reducible first | exact HB.out | apply below_alloc | apply pw_below_drewN | apply below_drew1 | refine below_set ?_ (Go.Proofs.Ytecjbogconeilaa.Note.IsN.ge HI.out)) | exact HB.out)) A1.out).mono ?_); rintro e w51 ⟨v_, rfl, hi, hb⟩; obtain ⟨Av2, cv2, rfl⟩ := Kd.R_slice (Go.Proofs.Ytecjbogconeilaa.Note.IsN.row hi); have n0_ := Aside0.mk (hi); have n1_ := Aside0.mk (hb); (try clear HI); (try clear HB); have HI := n0_; have HB := n1_; clear n0_ n1_; have hcz51_0 := Go.Proofs.Ytecjbogconeilaa.Note.IsN.c0 HI.out; have hcz51_1 := Go.Proofs.Ytecjbogconeilaa.Note.IsN.c1 HI.out; have hcz51_2 := Go.Proofs.Ytecjbogconeilaa.Note.IsN.c2 HI.out; have hfz51_1 := Go.Proofs.Ytecjbogconeilaa.Note.IsN.fz HI.out 1; have hfz51_2 := Go.Proofs.Ytecjbogconeilaa.Note.IsN.fz HI.out 2; (try clear hi); (try clear hb); have tkr_ := Aside0.mk trivial) | (go_at_call 142; (with_reducible refine (impl_notation_read.next_calls g s i2 (.slice Av2 xs2.length cv2) xs2 124 w0 _ (by (repeat (first | (with_reducible first | exact HI.out | apply Go.Proofs.Ytecjbogconeilaa.Note.IsN.drewN | apply Go.Proofs.Ytecjbogconeilaa.Note.IsN.drew | apply Go.Proofs.Ytecjbogconeilaa.Note.IsN.set_1) | exact HI.out)); done) (by repeat (first | (with_reducible first | exact HB.out | apply below_alloc | apply pw_below_drewN | apply below_drew1 | refine below_set ?_ (Go.Proofs.Ytecjbogconeilaa.Note.IsN.ge HI.out)) | exact HB.out)) A2.out).mono ?_); rintro e w52 ⟨rfl, hi, hb⟩; have n0_ := Aside0.mk (hi); have n1_ := Aside0.mk (hb); (try clear HI); (try clear HB); have HI := n0_; have HB := n1_; clear n0_ n1_; have hcz52_0 := Go.Proofs.Ytecjbogconeilaa.Note.IsN.c0 HI.out; have hcz52_1 := Go.Proofs.Ytecjbogconeilaa.Note.IsN.c1 HI.out; have hcz52_2 := Go.Proofs.Ytecjbogconeilaa.Note.IsN.c2 HI.out; have hfz52_1 := Go.Proofs.Ytecjbogconeilaa.Note.IsN.fz HI.out 1; have hfz52_2 := Go.Proofs.Ytecjbogconeilaa.Note.IsN.fz HI.out 2; (try clear hi); (try clear hb); have tkn_ := Aside0.mk trivial))
              go_ret
              exact ⟨(.slice Av3 xs3.length cv3), by first | rfl | (simp [*]; done), by (repeat (first | (with_reducible first | exact HI.out | apply Go.Proofs.Ytecjbogconeilaa.Note.IsN.drewN | apply Go.Proofs.Ytecjbogconeilaa.Note.IsN.drew | apply Go.Proofs.Ytecjbogconeilaa.Note.IsN.set_1) | exact HI.out)); done, by repeat (first | (with_reducible first | exact HB.out | apply below_alloc | apply pw_below_drewN | apply below_drew1 | refine below_set ?_ (Go.Proofs.Ytecjbogconeilaa.Note.IsN.ge HI.out)) | exact HB.out)⟩
      · rw [if_neg k6] at H
        have k6b : (c == 124) = false := beq_eq_false_iff_ne.mpr k6
        have k6n : (c != 124) = true := bne_iff_ne.mpr k6
        clear k6
        simp only [Option.some.injEq, Prod.mk.injEq] at H
        obtain ⟨rfl, rfl, rfl⟩ := H
        go_enter Try.func143, Try.ntmps143
        go_wp2_with (first | (go_at_call 88; (with_reducible refine (IHR.out g s i (.slice Av xs.length cv) xs true i2 xs2 w0 _ (by (repeat (first | (with_reducible first | exact HI.out | apply Go.Proofs.Ytecjbogconeilaa.Note.IsN.drewN | apply Go.Proofs.Ytecjbogconeilaa.Note.IsN.drew | apply Go.Proofs.Ytecjbogconeilaa.Note.IsN.set_1) | exact HI.out)); done) (by repeat (first | (with_reducible first | exact HB.out | apply below_alloc | apply pw_below_drewN | apply below_drew1 | refine below_set ?_ (Go.Proofs.Ytecjbogconeilaa.Note.IsN.ge HI.out)) | exact HB.out)) A1.out).mono ?_); rintro e w53 ⟨v_, rfl, hi, hb⟩; obtain ⟨Av2, cv2, rfl⟩ := Kd.R_slice (Go.Proofs.Ytecjbogconeilaa.Note.IsN.row hi); have n0_ := Aside0.mk (hi); have n1_ := Aside0.mk (hb); (try clear HI); (try clear HB); have HI := n0_; have HB := n1_; clear n0_ n1_; have hcz53_0 := Go.Proofs.Ytecjbogconeilaa.Note.IsN.c0 HI.out; have hcz53_1 := Go.Proofs.Ytecjbogconeilaa.Note.IsN.c1 HI.out; have hcz53_2 := Go.Proofs.Ytecjbogconeilaa.Note.IsN.c2 HI.out; have hfz53_1 := Go.Proofs.Ytecjbogconeilaa.Note.IsN.fz HI.out 1; have hfz53_2 := Go.Proofs.Ytecjbogconeilaa.Note.IsN.fz HI.out 2; (try clear hi); (try clear hb); have tkr_ := Aside0.mk trivial) | (go_at_call 142; (with_reducible refine (impl_notation_read.next_calls g s i2 (.slice Av2 xs2.length cv2) xs2 c w0 _ (by (repeat (first | (with_reducible first | exact HI.out | apply Go.Proofs.Ytecjbogconeilaa.Note.IsN.drewN | apply Go.Proofs.Ytecjbogconeilaa.Note.IsN.drew | apply Go.Proofs.Ytecjbogconeilaa.Note.IsN.set_1) | exact HI.out)); done) (by repeat (first | (with_reducible first | exact HB.out | apply below_alloc | apply pw_below_drewN | apply below_drew1 | refine below_set ?_ (Go.Proofs.Ytecjbogconeilaa.Note.IsN.ge HI.out)) | exact HB.out)) A2.out).mono ?_); rintro e w54 ⟨rfl, hi, hb⟩; have n0_ := Aside0.mk (hi); have n1_ := Aside0.mk (hb); (try clear HI); (try clear HB); have HI := n0_; have HB := n1_; clear n0_ n1_; have hcz54_0 := Go.Proofs.Ytecjbogconeilaa.Note.IsN.c0 HI.out; have hcz54_1 := Go.Proofs.Ytecjbogconeilaa.Note.IsN.c1 HI.out; have hcz54_2 := Go.Proofs.Ytecjbogconeilaa.Note.IsN.c2 HI.out; have hfz54_1 := Go.Proofs.Ytecjbogconeilaa.Note.IsN.fz HI.out 1; have hfz54_2 := Go.Proofs.Ytecjbogconeilaa.Note.IsN.fz HI.out 2; (try clear hi); (try clear hb); have tkn_ := Aside0.mk trivial))
        go_ret
        exact ⟨(.slice Av2 xs2.length cv2), by first | rfl | (simp [*]; done), by (repeat (first | (with_reducible first | exact HI.out | apply Go.Proofs.Ytecjbogconeilaa.Note.IsN.drewN | apply Go.Proofs.Ytecjbogconeilaa.Note.IsN.drew | apply Go.Proofs.Ytecjbogconeilaa.Note.IsN.set_1) | exact HI.out)); done, by repeat (first | (with_reducible first | exact HB.out | apply below_alloc | apply pw_below_drewN | apply below_drew1 | refine below_set ?_ (Go.Proofs.Ytecjbogconeilaa.Note.IsN.ge HI.out)) | exact HB.out)⟩
theorem impl_notation_read.all (k : Nat) : (∀ (g : Nat) (s : ByteArray) (i : Int) (v : Value) (xs : List Int) (r : Bool) (i' : Int) (xs' : List Int) (w0 w : World), Go.Proofs.Ytecjbogconeilaa.Note.IsN 3 65 w0 w g s i v xs → Below w0.heap.size w0 w → impl_notation_read.f k s i xs = some (r, i', xs') → Calls Try.prog 88 #[.pointer (some ⟨g, 0, none⟩)] w fun e w' => ∃ v' : Value, e = .returned (.bool r) ∧ Go.Proofs.Ytecjbogconeilaa.Note.IsN 3 65 w0 w' g s i' v' xs' ∧ Below w0.heap.size w0 w') ∧ (∀ (g : Nat) (s : ByteArray) (i : Int) (v : Value) (xs : List Int) (r : Bool) (i' : Int) (xs' : List Int) (w0 w : World), Go.Proofs.Ytecjbogconeilaa.Note.IsN 3 65 w0 w g s i v xs → Below w0.heap.size w0 w → impl_notation_read.pair k s i xs = some (r, i', xs') → Calls Try.prog 143 #[.pointer (some ⟨g, 0, none⟩)] w fun e w' => ∃ v' : Value, e = .returned (.bool r) ∧ Go.Proofs.Ytecjbogconeilaa.Note.IsN 3 65 w0 w' g s i' v' xs' ∧ Below w0.heap.size w0 w') := by
  induction k using Nat.strongRecOn with
  | _ k ih =>
    cases k with
    | zero => exact ⟨fun g s i v xs r i' xs' w0 w _ _ h => absurd h (by simp [impl_notation_read.f]), fun g s i v xs r i' xs' w0 w _ _ h => absurd h (by simp [impl_notation_read.pair])⟩
    | succ k => exact ⟨impl_notation_read.read_step k ⟨(ih k (by omega)).1⟩ ⟨(ih k (by omega)).2⟩, impl_notation_read.pair_step k ⟨(ih k (by omega)).1⟩ ⟨(ih (k - 1) (by omega)).1⟩⟩
theorem impl_notation_read.calls (k g : Nat) (s : ByteArray) (i : Int) (v : Value) (xs : List Int) (r : Bool) (i' : Int) (xs' : List Int) (w0 w : World) (hI : Go.Proofs.Ytecjbogconeilaa.Note.IsN 3 65 w0 w g s i v xs) (hB : Below w0.heap.size w0 w) (h : impl_notation_read.f k s i xs = some (r, i', xs')) :
    Calls Try.prog 88 #[.pointer (some ⟨g, 0, none⟩)] w fun e w' => ∃ v' : Value, e = .returned (.bool r) ∧ Go.Proofs.Ytecjbogconeilaa.Note.IsN 3 65 w0 w' g s i' v' xs' ∧ Below w0.heap.size w0 w' := (impl_notation_read.all k).1 g s i v xs r i' xs' w0 w hI hB h

/-! ### impl_ParsePattern: function 16 -/
def impl_ParsePattern.f (k : Nat) (a0 : ByteArray) : Option (List Int × Bool) := if (a0.size : Int) > 100 then (some (([] : List Int), false)) else ((impl_notation_read.f k a0 0 []).bind fun b => (if b.1 = true then ((impl_PatternText.f k b.2.2).bind fun t => (if t.toList = a0.toList then (some (b.2.2, true)) else (some (([] : List Int), false)))) else (some (([] : List Int), false))))
theorem impl_ParsePattern.mono : ∀ a0 k, LeO (impl_ParsePattern.f k a0) (impl_ParsePattern.f (k + 1) a0) := by
  intro a0 k
  unfold impl_ParsePattern.f
  repeat' first
    | (with_reducible exact impl_notation_read.mono _ _ _ _)
    | (with_reducible exact impl_PatternText.mono _ _)
    | (with_reducible exact LeO.refl _)
    | (with_reducible exact LeO.none _)
    | (with_reducible refine LeO.ite ?_ ?_)
    | (with_reducible refine LeO.bind ?_ (fun _ => ?_))
set_option maxHeartbeats 8000000 in
set_option maxRecDepth 100000 in
theorem impl_ParsePattern.calls (k : Nat) (a0 : ByteArray) (r1 : List Int) (r2 : Bool) (w : World) (h : impl_ParsePattern.f k a0 = some (r1, r2)) :
  Calls Try.prog 16 #[.string a0] w fun e w' => ∃ v0_ : Value, e = .returned (.tuple #[v0_, .bool r2]) ∧ Kd.R (Kd.int .i64) 3 w' w.heap.size (fun _ => True) v0_ r1 ∧ Below w.heap.size w w' := by
 have HB := Aside0.mk (Below.refl w.heap.size w)
 have H := h
 unfold impl_ParsePattern.f at H
 clear h
 by_cases c2 : (a0.size : Int) > 100
 ·rw [if_pos c2] at H
  have c2b0 : decide (100 < (a0.size : Int)) = true := decide_eq_true c2
  have c2b1 : decide (100 < a0.size) = true := decide_eq_true (by omega)
  clear c2
  simp only [Option.some.injEq, Prod.mk.injEq] at H
  obtain ⟨rfl, rfl⟩ := H
  go_enter Try.func16, Try.ntmps16
  go_wp2_with (first | ((with_reducible refine gate_dst (N := 7) rfl ?_); refine box_event ?hg (N := 7) ?hd (cs := #[.string a0, .int .i64 0, .slice none 0 0]) (t := 65) ?hr ?_; (case hd => rfl); (case hg => rfl); (case hr => first | (go_simp; done) | (go_simp; rfl)); intro gb hg wb hbox hb; have hge_ := (by rw [hg]; exact below_size (by repeat (first | (with_reducible first | exact HB.out | apply below_alloc | apply pw_below_drewN | apply below_drew1) | exact HB.out)) : w.heap.size ≤ gb); have n0_ := Aside0.mk (show Go.Proofs.Ytecjbogconeilaa.Note.IsN 3 65 w wb gb a0 0 (.slice none 0 0) ([] : List Int) from ⟨hbox, hge_, Kd.R_nil _ _ _ _ _, by decide⟩); have n1_ := Aside0.mk (below_step (by repeat (first | (with_reducible first | exact HB.out | apply below_alloc | apply pw_below_drewN | apply below_drew1) | exact HB.out)) hb); (try clear HB); (try clear HI); have HI := n0_; clear n0_; have HB := n1_; clear n1_; clear hb hbox hg) | ((with_reducible refine gate_dst (N := 25) rfl ?_); (try (refine gate_guard (by rfl) ?_; dsimp only)); refine Kd.R_lit (Kd.int .i64) _ 3 ?hg (N := 25) ?hd (xs := ([] : List Int)) (inner := []) (ok := fun _ => True) (okp := fun _ => True) ?hr ?hp (fun _ hk => hk) trivial (Below.refl _ _) (Nat.le_refl _) (by simp) ?_; (case hd => rfl); (case hg => rfl); (case hr => first | (go_simp; done) | (go_simp; rfl)); (case hp => exact (Reps.none _ _)); intro v9 w9_ ho hb hg_ hnew_; clear hg_ hnew_; have n0_ := Aside0.mk (Kd.R_lower ho (below_size (by repeat (first | (with_reducible first | exact HB.out | apply below_alloc | apply pw_below_drewN | apply below_drew1) | exact HB.out)))); have n1_ := Aside0.mk (below_step (by repeat (first | (with_reducible first | exact HB.out | apply below_alloc | apply pw_below_drewN | apply below_drew1) | exact HB.out)) hb); (try clear HB); have HO := n0_; have HB := n1_; clear n0_ n1_ ho hb))
  go_ret2
  exact ⟨v9, by first | rfl | (simp [*]; done), by (with_reducible repeat (first | apply Kd.R_alloc | apply Kd.R_drewN | apply Kd.R_drew)); exact HO.out, by repeat (first | (with_reducible first | exact HB.out | apply below_alloc | apply pw_below_drewN | apply below_drew1) | exact HB.out)⟩
 ·rw [if_neg c2] at H
  have c2b0 : decide (100 < (a0.size : Int)) = false := decide_eq_false c2
  have c2b1 : decide (100 < a0.size) = false := decide_eq_false (by omega)
  clear c2
  replace H := Option.bind_eq_some_iff.mp H
  obtain ⟨⟨b, i2, xs2⟩, a_, H⟩ := H
  have A2 := Aside0.mk a_
  clear a_
  try simp only at H
  cases b with
  | false =>
   rw [if_neg (by simp)] at H
   simp only [Option.some.injEq, Prod.mk.injEq] at H
   obtain ⟨rfl, rfl⟩ := H
   go_enter Try.func16, Try.ntmps16
   go_wp2_with (first | ((with_reducible refine gate_dst (N := 7) rfl ?_); refine box_event ?hg (N := 7) ?hd (cs := #[.string a0, .int .i64 0, .slice none 0 0]) (t := 65) ?hr ?_; (case hd => rfl); (case hg => rfl); (case hr => first | (go_simp; done) | (go_simp; rfl)); intro gb hg wb hbox hb; have hge_ := (by rw [hg]; exact below_size (by repeat (first | (with_reducible first | exact HB.out | apply below_alloc | apply pw_below_drewN | apply below_drew1) | exact HB.out)) : w.heap.size ≤ gb); have n0_ := Aside0.mk (show Go.Proofs.Ytecjbogconeilaa.Note.IsN 3 65 w wb gb a0 0 (.slice none 0 0) ([] : List Int) from ⟨hbox, hge_, Kd.R_nil _ _ _ _ _, by decide⟩); have n1_ := Aside0.mk (below_step (by repeat (first | (with_reducible first | exact HB.out | apply below_alloc | apply pw_below_drewN | apply below_drew1) | exact HB.out)) hb); (try clear HB); (try clear HI); have HI := n0_; clear n0_; have HB := n1_; clear n1_; clear hb hbox hg) | (go_at_call 88; (with_reducible refine (impl_notation_read.calls k gb a0 0 (.slice none 0 0) ([] : List Int) false i2 xs2 w _ (by (repeat (first | (with_reducible first | exact HI.out | apply Go.Proofs.Ytecjbogconeilaa.Note.IsN.drewN | apply Go.Proofs.Ytecjbogconeilaa.Note.IsN.drew | apply Go.Proofs.Ytecjbogconeilaa.Note.IsN.set_1) | exact HI.out)); done) (by repeat (first | (with_reducible first | exact HB.out | apply below_alloc | apply pw_below_drewN | apply below_drew1) | exact HB.out)) A2.out).mono ?_); rintro e w2_ ⟨v_, rfl, hi, hb⟩; obtain ⟨Av2, cv2, rfl⟩ := Kd.R_slice (Go.Proofs.Ytecjbogconeilaa.Note.IsN.row hi); have n0_ := Aside0.mk (hi); have n1_ := Aside0.mk (hb); (try clear HB); (try clear HI); have HI := n0_; clear n0_; have HB := n1_; clear n1_; have hcz_ := Go.Proofs.Ytecjbogconeilaa.Note.IsN.c2 HI.out; have hfz_ := Go.Proofs.Ytecjbogconeilaa.Note.IsN.fz HI.out 2; clear hi hb) | ((with_reducible refine gate_dst (N := 25) rfl ?_); (try (refine gate_guard (by rfl) ?_; dsimp only)); refine Kd.R_lit (Kd.int .i64) _ 3 ?hg (N := 25) ?hd (xs := ([] : List Int)) (inner := []) (ok := fun _ => True) (okp := fun _ => True) ?hr ?hp (fun _ hk => hk) trivial (Below.refl _ _) (Nat.le_refl _) (by simp) ?_; (case hd => rfl); (case hg => rfl); (case hr => first | (go_simp; done) | (go_simp; rfl)); (case hp => exact (Reps.none _ _)); intro v9 w9_ ho hb hg_ hnew_; clear hg_ hnew_; have n0_ := Aside0.mk (Kd.R_lower ho (below_size (by repeat (first | (with_reducible first | exact HB.out | apply below_alloc | apply pw_below_drewN | apply below_drew1) | exact HB.out)))); have n1_ := Aside0.mk (below_step (by repeat (first | (with_reducible first | exact HB.out | apply below_alloc | apply pw_below_drewN | apply below_drew1) | exact HB.out)) hb); (try clear HB); have HO := n0_; have HB := n1_; clear n0_ n1_ ho hb))
   go_ret2
   exact ⟨v9, by first | rfl | (simp [*]; done), by (with_reducible repeat (first | apply Kd.R_alloc | apply Kd.R_drewN | apply Kd.R_drew)); exact HO.out, by repeat (first | (with_reducible first | exact HB.out | apply below_alloc | apply pw_below_drewN | apply below_drew1) | exact HB.out)⟩
  | true =>
   rw [if_pos rfl] at H
   replace H := Option.bind_eq_some_iff.mp H
   obtain ⟨t, a_, H⟩ := H
   have A3 := Aside0.mk a_
   clear a_
   try simp only at H
   by_cases c12 : t.toList = a0.toList
   ·rw [if_pos c12] at H
    have c12b0 : (t.toList == a0.toList) = true := beq_iff_eq.mpr c12
    have c12b1 : (t.toList != a0.toList) = false := bne_eq_false_iff_eq.mpr c12
    clear c12
    simp only [Option.some.injEq, Prod.mk.injEq] at H
    obtain ⟨rfl, rfl⟩ := H
    go_enter Try.func16, Try.ntmps16
    go_wp2_with (first | ((with_reducible refine gate_dst (N := 7) rfl ?_); refine box_event ?hg (N := 7) ?hd (cs := #[.string a0, .int .i64 0, .slice none 0 0]) (t := 65) ?hr ?_; (case hd => rfl); (case hg => rfl); (case hr => first | (go_simp; done) | (go_simp; rfl)); intro gb hg wb hbox hb; have hge_ := (by rw [hg]; exact below_size (by repeat (first | (with_reducible first | exact HB.out | apply below_alloc | apply pw_below_drewN | apply below_drew1) | exact HB.out)) : w.heap.size ≤ gb); have n0_ := Aside0.mk (show Go.Proofs.Ytecjbogconeilaa.Note.IsN 3 65 w wb gb a0 0 (.slice none 0 0) ([] : List Int) from ⟨hbox, hge_, Kd.R_nil _ _ _ _ _, by decide⟩); have n1_ := Aside0.mk (below_step (by repeat (first | (with_reducible first | exact HB.out | apply below_alloc | apply pw_below_drewN | apply below_drew1) | exact HB.out)) hb); (try clear HB); (try clear HI); have HI := n0_; clear n0_; have HB := n1_; clear n1_; clear hb hbox hg) | (go_at_call 88; (with_reducible refine (impl_notation_read.calls k gb a0 0 (.slice none 0 0) ([] : List Int) true i2 xs2 w _ (by (repeat (first | (with_reducible first | exact HI.out | apply Go.Proofs.Ytecjbogconeilaa.Note.IsN.drewN | apply Go.Proofs.Ytecjbogconeilaa.Note.IsN.drew | apply Go.Proofs.Ytecjbogconeilaa.Note.IsN.set_1) | exact HI.out)); done) (by repeat (first | (with_reducible first | exact HB.out | apply below_alloc | apply pw_below_drewN | apply below_drew1) | exact HB.out)) A2.out).mono ?_); rintro e w2_ ⟨v_, rfl, hi, hb⟩; obtain ⟨Av2, cv2, rfl⟩ := Kd.R_slice (Go.Proofs.Ytecjbogconeilaa.Note.IsN.row hi); have n0_ := Aside0.mk (hi); have n1_ := Aside0.mk (hb); (try clear HB); (try clear HI); have HI := n0_; clear n0_; have HB := n1_; clear n1_; have hcz_ := Go.Proofs.Ytecjbogconeilaa.Note.IsN.c2 HI.out; have hfz_ := Go.Proofs.Ytecjbogconeilaa.Note.IsN.fz HI.out 2; clear hi hb) | (go_at_call 17; (with_reducible refine (impl_PatternText.calls k _ _ xs2 t _ (Kd.R_reads' (Go.Proofs.Ytecjbogconeilaa.Note.IsN.row (by (repeat (first | (with_reducible first | exact HI.out | apply Go.Proofs.Ytecjbogconeilaa.Note.IsN.drewN | apply Go.Proofs.Ytecjbogconeilaa.Note.IsN.drew | apply Go.Proofs.Ytecjbogconeilaa.Note.IsN.set_1) | exact HI.out)); done))).2.2 (Kd.R_reads' (Go.Proofs.Ytecjbogconeilaa.Note.IsN.row HI.out)).2.1 A3.out).mono ?_); rintro e w3_ ⟨rfl, hb⟩; have n0_ := Aside0.mk (Go.Proofs.Ytecjbogconeilaa.Note.IsN.below (by (repeat (first | (with_reducible first | exact HI.out | apply Go.Proofs.Ytecjbogconeilaa.Note.IsN.drewN | apply Go.Proofs.Ytecjbogconeilaa.Note.IsN.drew | apply Go.Proofs.Ytecjbogconeilaa.Note.IsN.set_1) | exact HI.out)); done) hb); have n1_ := Aside0.mk (below_step (by repeat (first | (with_reducible first | exact HB.out | apply below_alloc | apply pw_below_drewN | apply below_drew1) | exact HB.out)) hb); (try clear HB); (try clear HI); have HI := n0_; clear n0_; have HB := n1_; clear n1_; have hcy_ := Go.Proofs.Ytecjbogconeilaa.Note.IsN.c2 HI.out; clear hb))
    go_ret2
    exact ⟨(.slice Av2 xs2.length cv2), by first | rfl | (simp [*]; done), Go.Proofs.Ytecjbogconeilaa.Note.IsN.row (by (repeat (first | (with_reducible first | exact HI.out | apply Go.Proofs.Ytecjbogconeilaa.Note.IsN.drewN | apply Go.Proofs.Ytecjbogconeilaa.Note.IsN.drew | apply Go.Proofs.Ytecjbogconeilaa.Note.IsN.set_1) | exact HI.out)); done), by repeat (first | (with_reducible first | exact HB.out | apply below_alloc | apply pw_below_drewN | apply below_drew1) | exact HB.out)⟩
   ·rw [if_neg c12] at H
    have c12b0 : (t.toList == a0.toList) = false := beq_eq_false_iff_ne.mpr c12
    have c12b1 : (t.toList != a0.toList) = true := bne_iff_ne.mpr c12
    clear c12
    simp only [Option.some.injEq, Prod.mk.injEq] at H
    obtain ⟨rfl, rfl⟩ := H
    go_enter Try.func16, Try.ntmps16
    go_wp2_with (first | ((with_reducible refine gate_dst (N := 7) rfl ?_); refine box_event ?hg (N := 7) ?hd (cs := #[.string a0, .int .i64 0, .slice none 0 0]) (t := 65) ?hr ?_; (case hd => rfl); (case hg => rfl); (case hr => first | (go_simp; done) | (go_simp; rfl)); intro gb hg wb hbox hb; have hge_ := (by rw [hg]; exact below_size (by repeat (first | (with_reducible first | exact HB.out | apply below_alloc | apply pw_below_drewN | apply below_drew1) | exact HB.out)) : w.heap.size ≤ gb); have n0_ := Aside0.mk (show Go.Proofs.Ytecjbogconeilaa.Note.IsN 3 65 w wb gb a0 0 (.slice none 0 0) ([] : List Int) from ⟨hbox, hge_, Kd.R_nil _ _ _ _ _, by decide⟩); have n1_ := Aside0.mk (below_step (by repeat (first | (with_reducible first | exact HB.out | apply below_alloc | apply pw_below_drewN | apply below_drew1) | exact HB.out)) hb); (try clear HB); (try clear HI); have HI := n0_; clear n0_; have HB := n1_; clear n1_; clear hb hbox hg) | (go_at_call 88; (with_reducible refine (impl_notation_read.calls k gb a0 0 (.slice none 0 0) ([] : List Int) true i2 xs2 w _ (by (repeat (first | (with_reducible first | exact HI.out | apply Go.Proofs.Ytecjbogconeilaa.Note.IsN.drewN | apply Go.Proofs.Ytecjbogconeilaa.Note.IsN.drew | apply Go.Proofs.Ytecjbogconeilaa.Note.IsN.set_1) | exact HI.out)); done) (by repeat (first | (with_reducible first | exact HB.out | apply below_alloc | apply pw_below_drewN | apply below_drew1) | exact HB.out)) A2.out).mono ?_); rintro e w2_ ⟨v_, rfl, hi, hb⟩; obtain ⟨Av2, cv2, rfl⟩ := Kd.R_slice (Go.Proofs.Ytecjbogconeilaa.Note.IsN.row hi); have n0_ := Aside0.mk (hi); have n1_ := Aside0.mk (hb); (try clear HB); (try clear HI); have HI := n0_; clear n0_; have HB := n1_; clear n1_; have hcz_ := Go.Proofs.Ytecjbogconeilaa.Note.IsN.c2 HI.out; have hfz_ := Go.Proofs.Ytecjbogconeilaa.Note.IsN.fz HI.out 2; clear hi hb) | (go_at_call 17; (with_reducible refine (impl_PatternText.calls k _ _ xs2 t _ (Kd.R_reads' (Go.Proofs.Ytecjbogconeilaa.Note.IsN.row (by (repeat (first | (with_reducible first | exact HI.out | apply Go.Proofs.Ytecjbogconeilaa.Note.IsN.drewN | apply Go.Proofs.Ytecjbogconeilaa.Note.IsN.drew | apply Go.Proofs.Ytecjbogconeilaa.Note.IsN.set_1) | exact HI.out)); done))).2.2 (Kd.R_reads' (Go.Proofs.Ytecjbogconeilaa.Note.IsN.row HI.out)).2.1 A3.out).mono ?_); rintro e w3_ ⟨rfl, hb⟩; have n0_ := Aside0.mk (Go.Proofs.Ytecjbogconeilaa.Note.IsN.below (by (repeat (first | (with_reducible first | exact HI.out | apply Go.Proofs.Ytecjbogconeilaa.Note.IsN.drewN | apply Go.Proofs.Ytecjbogconeilaa.Note.IsN.drew | apply Go.Proofs.Ytecjbogconeilaa.Note.IsN.set_1) | exact HI.out)); done) hb); have n1_ := Aside0.mk (below_step (by repeat (first | (with_reducible first | exact HB.out | apply below_alloc | apply pw_below_drewN | apply below_drew1) | exact HB.out)) hb); (try clear HB); (try clear HI); have HI := n0_; clear n0_; have HB := n1_; clear n1_; have hcy_ := Go.Proofs.Ytecjbogconeilaa.Note.IsN.c2 HI.out; clear hb) | ((with_reducible refine gate_dst (N := 25) rfl ?_); (try (refine gate_guard (by rfl) ?_; dsimp only)); refine Kd.R_lit (Kd.int .i64) _ 3 ?hg (N := 25) ?hd (xs := ([] : List Int)) (inner := []) (ok := fun _ => True) (okp := fun _ => True) ?hr ?hp (fun _ hk => hk) trivial (Below.refl _ _) (Nat.le_refl _) (by simp) ?_; (case hd => rfl); (case hg => rfl); (case hr => first | (go_simp; done) | (go_simp; rfl)); (case hp => exact (Reps.none _ _)); intro v9 w9_ ho hb hg_ hnew_; clear hg_ hnew_; have n0_ := Aside0.mk (Kd.R_lower ho (below_size (by repeat (first | (with_reducible first | exact HB.out | apply below_alloc | apply pw_below_drewN | apply below_drew1) | exact HB.out)))); have n1_ := Aside0.mk (below_step (by repeat (first | (with_reducible first | exact HB.out | apply below_alloc | apply pw_below_drewN | apply below_drew1) | exact HB.out)) hb); (try clear HB); have HO := n0_; have HB := n1_; clear n0_ n1_ ho hb))
    go_ret2
    exact ⟨v9, by first | rfl | (simp [*]; done), by (with_reducible repeat (first | apply Kd.R_alloc | apply Kd.R_drewN | apply Kd.R_drew)); exact HO.out, by repeat (first | (with_reducible first | exact HB.out | apply below_alloc | apply pw_below_drewN | apply below_drew1) | exact HB.out)⟩

/-! ### spec_l1In: function 112 -/
def spec_l1In.f (a0 : Int) (a1 : Int) (a2 : Int) : Option (Bool) := if a0 ≥ a1 then (some (decide (a0 ≤ a2))) else (some false)
set_option maxHeartbeats 8000000 in
set_option maxRecDepth 100000 in
theorem spec_l1In.calls (a0 : Int) (a1 : Int) (a2 : Int) (r : Bool) (w : World) (h : spec_l1In.f a0 a1 a2 = some r) :
  Calls Try.prog 112 #[.int .i64 a0, .int .i64 a1, .int .i64 a2] w fun e w' => e = .returned (.bool r) ∧ Drawn0 w w' := by
 have H : (if a0 ≥ a1 then (some (decide (a0 ≤ a2))) else (some false)) = some r := h
 clear h
 by_cases c4 : a0 ≥ a1
 ·rw [if_pos c4] at H
  have c4b0 : decide (a1 ≤ a0) = true := decide_eq_true c4
  clear c4
  obtain rfl := Option.some.inj H
  go_enter Try.func112, Try.ntmps112
  go_wp2
  go_ret
  exact ⟨by first | rfl | (simp; done) | (simp [*]; done), by repeat (first | exact Drawn0.refl _ | apply Drawn0.step)⟩
 ·rw [if_neg c4] at H
  have c4b0 : decide (a1 ≤ a0) = false := decide_eq_false c4
  clear c4
  obtain rfl := Option.some.inj H
  go_enter Try.func112, Try.ntmps112
  go_wp2
  go_ret
  exact ⟨by first | rfl | (simp; done) | (simp [*]; done), by repeat (first | exact Drawn0.refl _ | apply Drawn0.step)⟩

/-! ### spec_l8Leaf: function 92 -/
def spec_l8Leaf.f (a0 : Int) : Option (Bool) := (spec_l1In.f a0 100 103).bind fun t245 => (if t245 = true then (some true) else ((spec_l1In.f a0 200 212).bind fun t246 => (if t246 = true then (some true) else ((spec_l1In.f a0 300 312).bind fun t247 => (if t247 = true then (some true) else (some (a0 == 400)))))))
set_option maxHeartbeats 8000000 in
set_option maxRecDepth 100000 in
theorem spec_l8Leaf.calls (a0 : Int) (r : Bool) (w : World) (h : spec_l8Leaf.f a0 = some r) :
  Calls Try.prog 92 #[.int .i64 a0] w fun e w' => e = .returned (.bool r) ∧ Drawn0 w w' := by
 have H : ((spec_l1In.f a0 100 103).bind fun t245 => (if t245 = true then (some true) else ((spec_l1In.f a0 200 212).bind fun t246 => (if t246 = true then (some true) else ((spec_l1In.f a0 300 312).bind fun t247 => (if t247 = true then (some true) else (some (a0 == 400)))))))) = some r := h
 clear h
 replace H := Option.bind_eq_some_iff.mp H
 obtain ⟨t245, A20, H⟩ := H
 replace H : (if t245 = true then (some true) else ((spec_l1In.f a0 200 212).bind fun t246 => (if t246 = true then (some true) else ((spec_l1In.f a0 300 312).bind fun t247 => (if t247 = true then (some true) else (some (a0 == 400))))))) = some r := H
 have A2 := Aside0.mk A20
 clear A20
 by_cases c3 : t245 = true
 ·subst c3
  have H1 : (some true) = some r := by rw [if_pos rfl] at H; exact H
  clear H
  have H := H1
  clear H1
  obtain rfl := Option.some.inj H
  go_enter Try.func92, Try.ntmps92
  go_wp2_with (first | ((with_reducible refine gate_callee (f := 112) rfl ?_); refine goesL_ (some 4) rfl rfl Try.func112 (by kernel_rfl) rfl #[.int .i64 a0, .int .i64 100, .int .i64 103] rfl (by (try simp only [List.map_toArray, List.map_cons, List.map_nil]); first | done | rfl | (simp only [List.length_drop, List.length_take]; rfl)) ?_; (with_reducible refine (spec_l1In.calls a0 100 103 true _ A2.out).mono ?_); rintro e w' ⟨rfl, ⟨nd, rfl⟩⟩; refine ⟨_, rfl, ?_⟩))
  go_ret
  exact ⟨by first | rfl | (simp; done) | (simp [*]; done), by repeat (first | exact Drawn0.refl _ | apply Drawn0.step)⟩
 ·replace c3 := Bool.eq_false_iff.mpr c3
  subst c3
  have H1 : ((spec_l1In.f a0 200 212).bind fun t246 => (if t246 = true then (some true) else ((spec_l1In.f a0 300 312).bind fun t247 => (if t247 = true then (some true) else (some (a0 == 400)))))) = some r := by rw [if_neg (show ¬ (false = true) by decide)] at H; exact H
  clear H
  have H := H1
  clear H1
  replace H := Option.bind_eq_some_iff.mp H
  obtain ⟨t246, A40, H⟩ := H
  replace H : (if t246 = true then (some true) else ((spec_l1In.f a0 300 312).bind fun t247 => (if t247 = true then (some true) else (some (a0 == 400))))) = some r := H
  have A4 := Aside0.mk A40
  clear A40
  by_cases c5 : t246 = true
  ·subst c5
   have H1 : (some true) = some r := by rw [if_pos rfl] at H; exact H
   clear H
   have H := H1
   clear H1
   obtain rfl := Option.some.inj H
   go_enter Try.func92, Try.ntmps92
   go_wp2_with (first | ((with_reducible refine gate_callee (f := 112) rfl ?_); refine goesL_ (some 4) rfl rfl Try.func112 (by kernel_rfl) rfl #[.int .i64 a0, .int .i64 100, .int .i64 103] rfl (by (try simp only [List.map_toArray, List.map_cons, List.map_nil]); first | done | rfl | (simp only [List.length_drop, List.length_take]; rfl)) ?_; (with_reducible refine (spec_l1In.calls a0 100 103 false _ A2.out).mono ?_); rintro e w' ⟨rfl, ⟨nd, rfl⟩⟩; refine ⟨_, rfl, ?_⟩) | (go_at_call 112; (with_reducible refine (spec_l1In.calls a0 200 212 true _ A4.out).mono ?_); rintro e w' ⟨rfl, ⟨nd, rfl⟩⟩))
   go_ret
   exact ⟨by first | rfl | (simp; done) | (simp [*]; done), by repeat (first | exact Drawn0.refl _ | apply Drawn0.step)⟩
  ·replace c5 := Bool.eq_false_iff.mpr c5
   subst c5
   have H1 : ((spec_l1In.f a0 300 312).bind fun t247 => (if t247 = true then (some true) else (some (a0 == 400)))) = some r := by rw [if_neg (show ¬ (false = true) by decide)] at H; exact H
   clear H
   have H := H1
   clear H1
   replace H := Option.bind_eq_some_iff.mp H
   obtain ⟨t247, A60, H⟩ := H
   replace H : (if t247 = true then (some true) else (some (a0 == 400))) = some r := H
   have A6 := Aside0.mk A60
   clear A60
   by_cases c7 : t247 = true
   ·subst c7
    have H1 : (some true) = some r := by rw [if_pos rfl] at H; exact H
    clear H
    have H := H1
    clear H1
    obtain rfl := Option.some.inj H
    go_enter Try.func92, Try.ntmps92
    go_wp2_with (first | ((with_reducible refine gate_callee (f := 112) rfl ?_); refine goesL_ (some 4) rfl rfl Try.func112 (by kernel_rfl) rfl #[.int .i64 a0, .int .i64 100, .int .i64 103] rfl (by (try simp only [List.map_toArray, List.map_cons, List.map_nil]); first | done | rfl | (simp only [List.length_drop, List.length_take]; rfl)) ?_; (with_reducible refine (spec_l1In.calls a0 100 103 false _ A2.out).mono ?_); rintro e w' ⟨rfl, ⟨nd, rfl⟩⟩; refine ⟨_, rfl, ?_⟩) | (go_at_call 112; (with_reducible refine (spec_l1In.calls a0 200 212 false _ A4.out).mono ?_); rintro e w' ⟨rfl, ⟨nd, rfl⟩⟩) | (go_at_call 112; (with_reducible refine (spec_l1In.calls a0 300 312 true _ A6.out).mono ?_); rintro e w' ⟨rfl, ⟨nd, rfl⟩⟩))
    go_ret
    exact ⟨by first | rfl | (simp; done) | (simp [*]; done), by repeat (first | exact Drawn0.refl _ | apply Drawn0.step)⟩
   ·replace c7 := Bool.eq_false_iff.mpr c7
    subst c7
    have H1 : (some (a0 == 400)) = some r := by rw [if_neg (show ¬ (false = true) by decide)] at H; exact H
    clear H
    have H := H1
    clear H1
    obtain rfl := Option.some.inj H
    go_enter Try.func92, Try.ntmps92
    go_wp2_with (first | ((with_reducible refine gate_callee (f := 112) rfl ?_); refine goesL_ (some 4) rfl rfl Try.func112 (by kernel_rfl) rfl #[.int .i64 a0, .int .i64 100, .int .i64 103] rfl (by (try simp only [List.map_toArray, List.map_cons, List.map_nil]); first | done | rfl | (simp only [List.length_drop, List.length_take]; rfl)) ?_; (with_reducible refine (spec_l1In.calls a0 100 103 false _ A2.out).mono ?_); rintro e w' ⟨rfl, ⟨nd, rfl⟩⟩; refine ⟨_, rfl, ?_⟩) | (go_at_call 112; (with_reducible refine (spec_l1In.calls a0 200 212 false _ A4.out).mono ?_); rintro e w' ⟨rfl, ⟨nd, rfl⟩⟩) | (go_at_call 112; (with_reducible refine (spec_l1In.calls a0 300 312 false _ A6.out).mono ?_); rintro e w' ⟨rfl, ⟨nd, rfl⟩⟩))
    go_ret
    exact ⟨by first | rfl | (simp; done) | (simp [*]; done), by repeat (first | exact Drawn0.refl _ | apply Drawn0.step)⟩

end Go.Proofs.Ytecjbogconeilaa.QFnNotations
