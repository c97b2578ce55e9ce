/- Rows of rows: copy(out[k+1:], out[k:]), then out[k] = own. The rows' cells are told as cells; behind the store they are rows again, each of its own. No condition beyond each lemma's own. -/
import Derived.Test.YtecjbogconeilaaCopy
import Derived.Test.YtecjbogconeilaaWApart
namespace Go.Proofs.Ytecjbogconeilaa.Arr
open Go.RowKit Go.Proofs.YtecjbogconeilaaW.PrintWords
set_option linter.unusedVariables false
set_option linter.unusedSimpArgs false

abbrev Cell := {u : Value // u.oneCell' = true}
def cellK : Kd Cell := Kd.scalar Subtype.val (fun x => x.2)

theorem run_shift_of {α : Type} {enc : α → Value} {h1 : ∀ x, (enc x).oneCell' = true} {P : Program} {w0 W : World} {g n cap k B : Nat} {e t : TypeId} {ok : Nat → Prop} {xs : List α} (hu : P.underlying t = some (.slice e)) (hsz : (P.info? e).map (·.size) = some 1)
    (h : Kd.R (Kd.scalar enc h1) e W B ok (.slice (some ⟨g, 0, none⟩) n cap) xs) (hB : Below B w0 W) (hk : k < n) (dp sp : Option Addr) (c1 c2 : Nat) (hd : k + 1 < n → dp = some ⟨g, k + 1, none⟩) (hs : sp = some ⟨g, k, none⟩) :
    ∃ W', (∀ ty, (Builtin.copy_ #[t, t] ty #[.slice dp (n - (k + 1)) c1, .slice sp (n - k) c2]).run P W = .ok (goInt (n - (k + 1) : Nat)) W') ∧
      Kd.R (Kd.scalar enc h1) e W' B ok (.slice (some ⟨g, 0, none⟩) n cap) (shifted xs k) ∧ Below B w0 W' ∧ W.grownBy W' (some g) := by
  subst hs
  have ho := Kd.own_of_R h
  have hok := h.1
  have hlen : xs.length = n := (Kd.R_reads' h).1.symm
  by_cases h0 : k + 1 < n
  · rw [hd h0]
    rcases ho.2 with ⟨he, _⟩ | ⟨g', cap', cur, he, hb, hh, hnc, hcm, hcs, hcx⟩
    · cases he
    · obtain ⟨rfl, rfl⟩ : g = g' ∧ cap = cap' := by injection he with he1 he2 he3; injection he1 with he1; injection he1 with he1; exact ⟨he1, he3⟩
      rw [hlen, Nat.mul_one] at hcx
      have hcl : n ≤ cur.toList.length := by simp; omega
      obtain ⟨cs, hcse⟩ : ∃ cs, cs = ((xs.drop k).take (n - (k + 1))).map enc := ⟨_, rfl⟩
      have hcsl : cs.length = n - (k + 1) := by rw [hcse]; simp; omega
      have hcur : ∀ j, j < n → cur.toList[j]? = (xs[j]?).map enc := by
        intro j hj
        have : (cur.toList.take n)[j]? = (encs enc xs)[j]? := by rw [hcx]
        rw [List.getElem?_take, if_pos hj] at this
        rw [this]
        simp [encs]
      have hrun := fun ty => run_copy_row (P := P) W t t ty e g (k + 1) (n - (k + 1)) c1 ⟨g, k, none⟩ (n - k) c2 cur e cs hu hsz hh (by rw [hcsl]; simp only [Nat.min_def]; split <;> omega)
        (fun j v hj => by
          have hjl : j < n - (k + 1) := by
            have := (List.getElem?_eq_some_iff.1 hj).1
            omega
          have ha : (⟨g, k, none⟩ : Addr).add j = ⟨g, k + j, none⟩ := by unfold Addr.add; split <;> simp_all
          rw [ha]
          simp only [World.cell?, hh]
          have h3 := hcur (k + j) (by omega)
          rw [Array.getElem?_toList] at h3
          have h4 : cs[j]? = (xs[k + j]?).map enc := by
            rw [hcse]
            simp [List.getElem?_take, hjl, List.getElem?_drop]
          rw [h4] at hj
          rw [← h3] at hj
          simpa using hj)
        (by rw [hcsl]; simp at hcl; omega) (by intro v hv; rw [hcse] at hv; obtain ⟨x_, _, rfl⟩ := List.mem_map.1 hv; exact h1 x_)
      rw [hcsl] at hrun
      refine ⟨_, fun ty => hrun ty, ?_, below_setRow hB hb _, ⟨rfl, rfl, rfl, by simp [World.setRow], fun i hi hne => setRow_other W g i _ (by intro e; exact hne (by rw [e]))⟩⟩
      have hsl := shifted_length xs k (by omega)
      refine Kd.R_of_own (xs := shifted xs k) ?_ hok
      refine ⟨by simp [encs, hsl], .inr ⟨g, cap, _, by rw [hsl, hlen], hb, setRow_heap W g cur _ e _ hh, by omega, hcm, ?_, ?_⟩⟩
      · simp [hcsl]; simp at hcl; omega
      · rw [hsl, Nat.mul_one, hlen]
        apply List.ext_getElem?
        intro i
        have hcl' : n ≤ cur.size := by simpa using hcl
        by_cases hi : i < n
        · rw [List.getElem?_take, if_pos hi]
          by_cases h1 : i < k + 1
          · rw [List.append_assoc, List.getElem?_append_left (by simp; omega), List.getElem?_take, if_pos h1, hcur i hi]
            simp [encs, shifted, List.getElem?_append, h1, hlen, show i < xs.length by omega, show i < min (k + 1) n by omega]
            exact ⟨_, List.getElem?_eq_getElem (by omega), rfl⟩
          · rw [List.append_assoc, List.getElem?_append_right (by simp; omega), List.getElem?_append_left (by simp [hcsl]; omega), hcse]
            have h5 : min (k + 1) cur.size = k + 1 := by omega
            have h6 : min (k + 1) n = k + 1 := by omega
            simp [encs, shifted, List.getElem?_append, h5, h6, h1, hlen]
        · rw [List.getElem?_take, if_neg hi, List.getElem?_eq_none (by simp [encs, hsl]; omega)]
  · have hk1 : k + 1 = n := by omega
    refine ⟨W, fun ty => ?_, ?_, hB, World.grownBy.refl W _⟩
    · have := run_copy_none (P := P) W t t ty e dp (some ⟨g, k, none⟩) (n - (k + 1)) c1 (n - k) c2 hu hsz (by simp only [Nat.min_def]; split <;> omega)
      rw [this]
      congr 2
      omega
    · have : shifted xs k = xs := by
        unfold shifted
        rw [show xs.length - (k + 1) = 0 by omega, List.take_of_length_le (by omega)]
        simp
      rw [this]; exact h
theorem shifted_get {α : Type} (xs : List α) (k j : Nat) (hk : k < xs.length) (hj : j < xs.length) : (shifted xs k)[j]? = if j ≤ k then xs[j]? else xs[j - 1]? := by
  unfold shifted
  by_cases h : j ≤ k
  · rw [if_pos h, List.getElem?_append_left (by simp; omega), List.getElem?_take, if_pos (by omega)]
  · rw [if_neg h, List.getElem?_append_right (by simp; omega), List.getElem?_take, if_pos (by simp; omega), List.getElem?_drop]
    congr 1
    simp; omega
/-- Rows each of its own: their cells, and what each cell leads to. -/
theorem S_open {β : Type} {d : Kd β} {e2 e : Nat} {w : World} {base : Nat} {ok : Nat → Prop} {v : Value} {xs : List (List β)} (h : Kd.S (Kd.slice e2 d) e w base ok v xs) :
    ∃ (f : Nat → Nat) (us : List Cell), us.length = xs.length ∧ cellK.R e w base ok v us ∧ ∀ (j : Nat) (x : List β) (u : Cell), xs[j]? = some x → us[j]? = some u → d.R e2 w base (fun q => (ok q ∧ some q ≠ v.ownBlock) ∧ f q = j) u.val x := by
  obtain ⟨f, h0, inner, ho, hr⟩ := h
  have hl : inner.length = xs.length := by have := hr.1; simp [Kd.tag, Kd.slice] at this; exact this
  have key : ∀ (j : Nat) (x : List β), xs[j]? = some x → ∃ u, inner[j]? = some u ∧ u.oneCell' = true ∧ d.R e2 w base (fun q => (ok q ∧ some q ≠ v.ownBlock) ∧ f q = j) u x := by
    intro j x hx
    obtain ⟨u, hu, hR⟩ := hr.2 j (x, j) (Kd.zip_at hx)
    have hj : j < inner.length := by have := (List.getElem?_eq_some_iff.1 hx).1; omega
    have h2 : (inner.drop (j * 1)).take 1 = [u] := hu
    rw [Nat.mul_one, List.drop_eq_getElem_cons hj, List.take_succ_cons, List.take_zero] at h2
    injection h2 with h2
    refine ⟨u, by rw [List.getElem?_eq_getElem hj, h2], ?_, hR⟩
    obtain ⟨A, c, rfl⟩ := Kd.R_slice hR
    rfl
  have hall : ∀ u ∈ inner, u.oneCell' = true := by
    intro u hu
    obtain ⟨j, hj, rfl⟩ := List.mem_iff_getElem.1 hu
    obtain ⟨u', h1, h2, _⟩ := key j (xs[j]'(by omega)) (List.getElem?_eq_getElem (by omega))
    rw [List.getElem?_eq_getElem hj] at h1
    injection h1 with h1
    rw [h1]; exact h2
  have hm : inner.attachWith (fun u => u.oneCell' = true) hall = inner.attachWith _ hall := rfl
  have hmv : (inner.attachWith (fun u => u.oneCell' = true) hall).map Subtype.val = inner := by simp
  refine ⟨f, inner.attachWith _ hall, by simp [hl], ?_, fun j x u hx hu => ?_⟩
  · refine Kd.R_of_own ?_ h0
    have e1 : encs Subtype.val (inner.attachWith (fun u => u.oneCell' = true) hall) = inner := hmv
    rw [e1, List.length_attachWith, hl]
    have := ho
    rw [List.length_zipIdx] at this
    exact this
  · obtain ⟨u', h1, _, h3⟩ := key j x hx
    have : (inner.attachWith (fun u => u.oneCell' = true) hall)[j]?.map Subtype.val = inner[j]? := by rw [← List.getElem?_map, hmv]
    rw [hu, h1] at this
    have : u.val = u' := Option.some.inj this
    rw [this]; exact h3
/-- The other way: no block is two elements'. -/
theorem S_close {β : Type} {d : Kd β} {e2 e : Nat} {w : World} {base : Nat} {ok : Nat → Prop} {v : Value} {xs : List (List β)} {us : List Cell} (okj : Nat → Nat → Prop) (hap : ∀ i j q, okj i q → okj j q → i = j) (hokj : ∀ j q, okj j q → ok q ∧ some q ≠ v.ownBlock)
    (hl : us.length = xs.length) (hR : cellK.R e w base ok v us) (hM : ∀ (j : Nat) (x : List β) (u : Cell), xs[j]? = some x → us[j]? = some u → d.R e2 w base (okj j) u.val x) : Kd.S (Kd.slice e2 d) e w base ok v xs := by
  have ho := Kd.own_of_R hR
  obtain ⟨f, hf⟩ := Kd.reps_tag (d := Kd.slice e2 d) (w := w) (base := base) (ok := fun q => ok q ∧ some q ≠ v.ownBlock) (xs := xs) (inner := encs Subtype.val us) okj hap hokj (by simp [encs, Kd.slice, hl])
    (fun j x hx => by
      have hj : j < us.length := by have := (List.getElem?_eq_some_iff.1 hx).1; omega
      have hj2 : j < (encs Subtype.val us).length := by simpa [encs] using hj
      refine ⟨us[j].val, ?_, hM j x us[j] hx (List.getElem?_eq_getElem hj)⟩
      show ((encs Subtype.val us).drop (j * 1)).take 1 = _
      rw [Nat.mul_one, List.drop_eq_getElem_cons hj2, List.take_succ_cons, List.take_zero]
      simp [encs])
  refine ⟨f, hR.1, encs Subtype.val us, ?_, hf⟩
  rw [List.length_zipIdx, ← hl]
  exact ho
/-- The store of an own row into the gap that the copy left. -/
theorem S_put_shifted {β : Type} {d : Kd β} {e2 e : Nat} {W : World} {base g n cap k : Nat} {ok ok' : Nat → Prop} {f : Nat → Nat} {xs : List (List β)} {us : List Cell} {u6 : Value} {x6 : List β} (h6c : u6.oneCell' = true)
    (hl : us.length = xs.length) (hR : cellK.R e W base ok' (.slice (some ⟨g, 0, none⟩) n cap) (shifted us k))
    (hM : ∀ (j : Nat) (x : List β) (u : Cell), xs[j]? = some x → us[j]? = some u → d.R e2 W base (fun q => (ok' q ∧ some q ≠ (Value.slice (some ⟨g, 0, none⟩) n cap).ownBlock) ∧ f q = j) u.val x) (hk : k < xs.length)
    (h6 : d.R e2 W base (fun q => some q = u6.ownBlock) u6 x6) (h6g : ∀ q, some q = u6.ownBlock → ok q ∧ q ≠ g) (hok : ∀ q, ok' q → ok q ∧ some q ≠ u6.ownBlock) :
    Kd.S (Kd.slice e2 d) e (W.setCell ⟨g, k, none⟩ u6) base ok (.slice (some ⟨g, 0, none⟩) n cap) ((shifted xs k).set k x6) ∧ W.grownBy (W.setCell ⟨g, k, none⟩ u6) (some g) := by
  have hp := Kd.R_putg (enc := Subtype.val) (h1 := fun (x : Cell) => x.2) hR (k : Int) ⟨u6, h6c⟩
  rw [Int.toNat_natCast] at hp
  have hg := hp.2
  have hls := shifted_length us k (by omega)
  have hlx := shifted_length xs k hk
  have ow : (Value.slice (some ⟨g, 0, none⟩) n cap).ownBlock = some g := rfl
  refine ⟨S_close (fun j q => if j = k then some q = u6.ownBlock else ((ok' q ∧ some q ≠ some g) ∧ f q = if j < k then j else j - 1)) ?_ ?_ ?_ (Kd.R_mono hp.1 (fun q hq => (hok q hq).1)) ?_, hg⟩
  · intro i j q h1 h2
    by_cases hi : i = k
    · by_cases hj : j = k
      · rw [hi, hj]
      · rw [if_pos hi] at h1
        rw [if_neg hj] at h2
        exact absurd h1 (hok q h2.1.1).2
    · by_cases hj : j = k
      · rw [if_neg hi] at h1
        rw [if_pos hj] at h2
        exact absurd h2 (hok q h1.1.1).2
      · rw [if_neg hi] at h1
        rw [if_neg hj] at h2
        have := h1.2.symm.trans h2.2
        split at this <;> split at this <;> omega
  · intro j q h
    rw [ow]
    by_cases hj : j = k
    · rw [if_pos hj] at h
      exact ⟨(h6g q h).1, fun e => (h6g q h).2 (Option.some.inj e)⟩
    · rw [if_neg hj] at h
      exact ⟨(hok q h.1.1).1, h.1.2⟩
  · rw [List.length_set, List.length_set, hls, hlx, hl]
  · intro j x u hx hu
    have hj : j < xs.length := by
      have := (List.getElem?_eq_some_iff.1 hx).1
      rw [List.length_set, hlx] at this
      exact this
    by_cases e : j = k
    · subst e
      rw [List.getElem?_set_self (by omega)] at hx hu
      injection hx with hx
      injection hu with hu
      subst hx; subst hu
      show d.R e2 _ base (fun q => if j = j then some q = u6.ownBlock else _) u6 x6
      refine Kd.R_mono (Kd.R_grown h6 hg (fun q hq e => (h6g q hq).2 (Option.some.inj e))) (fun q hq => by rw [if_pos rfl]; exact hq)
    · rw [List.getElem?_set_ne (fun h => e h.symm), shifted_get _ _ _ (by omega) (by omega)] at hx hu
      by_cases hjk : j ≤ k
      · rw [if_pos hjk] at hx hu
        refine Kd.R_mono (Kd.R_grown (hM j x u hx hu) hg (fun q hq => hq.1.2)) (fun q hq => ?_)
        rw [if_neg e, if_pos (by omega)]
        exact hq
      · rw [if_neg hjk] at hx hu
        refine Kd.R_mono (Kd.R_grown (hM (j - 1) x u hx hu) hg (fun q hq => hq.1.2)) (fun q hq => ?_)
        rw [if_neg e, if_neg (by omega)]
        exact hq
end Go.Proofs.Ytecjbogconeilaa.Arr
