/- How much more water a slope bears: as the reference says it, plain. -/
import Derived.Test.YtkenokpobbichaaAT
namespace Go.Proofs.Ytkenokpobbichaa
open Go.RowKit Go.Shelf Go.Deep

theorem bears_wet {s : Sd} (hs : SdOk s) {f : Int} (f0 : 0 ≤ f) (f1 : f ≤ 10000) (m : Nat) : bearsB (lowestK (refLo (wetS s m)) (allR s.n s.cols.length s.K) (-1)) f = true ↔ lowT (wetS s m) f (some false) = none := by
  have h := bears_low (wet_hd hs m) f0 f1
  unfold lowestR at h
  rw [lowest_lo, show hT (some false) (wetS s m) = hAt false (wetS s m) from rfl, wet_drive, lowW_is, ← h]
  unfold bearsB
  rw [Bool.or_eq_true, decide_eq_true_eq, decide_eq_true_eq]
theorem bears_dry {s : Sd} (hs : SdOk s) {f : Int} (f0 : 0 ≤ f) (f1 : f ≤ 10000) : bearsB (lowestK (refLo s) (allR s.n s.cols.length s.K) (-1)) f = true ↔ lowT s f (some false) = none := by
  have h := bears_wet hs f0 f1 0
  rw [show ((0 : Nat) : Int) = 0 from rfl, wet_zero hs] at h
  exact h
/-- The search of the reference ends at the margin. -/
theorem search_margin {s : Sd} (hs : SdOk s) {f : Int} (f0 : 0 ≤ f) (f1 : f ≤ 10000) {m : Nat} (h1 : m ≤ 100000) (h2 : bearsB (lowestK (refLo (wetS s m)) (allR s.n s.cols.length s.K) (-1)) f = true) (h3 : m < 100000 → bearsB (lowestK (refLo (wetS s (m + 1 : Nat))) (allR s.n s.cols.length s.K) (-1)) f = false) : m = marginS s f := by
  refine margin_of hs f0 (by omega) h1 ((bears_wet hs f0 f1 m).1 h2) fun h => ?_
  have h4 := h3 h
  cases hl : lowT (wetS s (m + 1 : Nat)) f (some false) with
  | none =>
    rw [(bears_wet hs f0 f1 (m + 1)).2 hl] at h4
    cases h4
  | some q => rfl
theorem bears_mono {s : Sd} (hs : SdOk s) {f : Int} (f0 : 0 ≤ f) (f1 : f ≤ 10000) {m m' : Nat} (hm : m ≤ m') (h : bearsB (lowestK (refLo (wetS s m')) (allR s.n s.cols.length s.K) (-1)) f = true) : bearsB (lowestK (refLo (wetS s m)) (allR s.n s.cols.length s.K) (-1)) f = true := by
  rw [bears_wet hs f0 f1] at h ⊢
  cases hl : lowT (wetS s m) f (some false) with
  | none => rfl
  | some q =>
    have h2 := low_wet_mono hs f0 (by omega) hm (f := f) (by rw [hl]; rfl)
    rw [h] at h2
    cases h2

end Go.Proofs.Ytkenokpobbichaa
