/- What it is that a field agrees with a survey. -/
import Derived.Test.YtpmafnifgegfbaaAB
namespace Go.Proofs.Ytpmafnifgegfbaa
open Go.RowKit Go.Shelf Go.Deep

/-- Is a movement of a field as it should be, apart from the tools. -/
def okF (s : Sd) (f : List Mv) (i : Nat) : Bool := match s.spots[i]?, f[i]? with
  | some p, some m => inB m.1 p.x.lo p.x.hi && inB m.2 p.y.lo p.y.hi && (decide (i = 0) || nearB s.strain (fnL f (i - 1)) m)
  | _, _ => false
def okT (s : Sd) (f : List Mv) (j : Nat) : Bool := match s.tools[j]? with
  | some t => agreeN t s.day (readAt s j) (fnL f t.spot.toNat) none
  | none => true
def proveB (s : Sd) (f : List Mv) : Bool := decide (errN s = 0) && decide (f.length = s.spots.length) && (List.range f.length).all (okF s f) && (List.range s.tools.length).all (okT s f)
theorem mv_at {w : World} {B : Nat} {l : List Mv} {b off : Nat} (h : Row mvL 2 w B (some ⟨b, off, none⟩) l) {k : Nat} {c : Mv} (hk : l[k]? = some c) : w.cell? ⟨b, off + k * 2, none⟩ = some (vi c.1) ∧ w.cell? ⟨b, off + k * 2 + 1, none⟩ = some (vi c.2) := by
  obtain ⟨b', off', e, _, h1, h2⟩ := row2 h hk
  injection e with e
  injection e with e1 e2
  rw [e1, e2]
  exact ⟨h1, h2⟩
theorem all_range_bad {p : Nat → Bool} {n i : Nat} (hi : i < n) (h : p i = false) : (List.range n).all p = false := List.all_eq_false.2 ⟨i, List.mem_range.2 hi, by rw [h]; decide⟩
theorem all_range_ok {p : Nat → Bool} {n : Nat} (h : ∀ i, i < n → p i = true) : (List.range n).all p = true := List.all_eq_true.2 fun i hi => h i (List.mem_range.1 hi)

end Go.Proofs.Ytpmafnifgegfbaa
