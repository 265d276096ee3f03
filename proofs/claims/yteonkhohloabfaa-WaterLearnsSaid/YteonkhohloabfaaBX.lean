/- What Learn and its law need of a ground with days, and the greater and the lesser one of two numbers. -/
import Derived.Test.YteonkhohloabfaaAU
namespace Go.Proofs.Yteonkhohloabfaa
open Go.RowKit

/-- What a law on a ground with days carries. -/
structure Lh (w : World) (g : Gnd) (A : Option Addr) (cp : Nat) (days : List Day) (D : Option Addr) (W : World) : Prop where
  below : Below w.heap.size w W
  gb : Whole W w.heap.size 26 (gndC A cp g)
  hc : Row cellL 7 W W.heap.size A g.cells
  hd : Row dayL 3 W W.heap.size D days
section
variable {w W W' : World} {g : Gnd} {A : Option Addr} {cp : Nat} {days : List Day} {D : Option Addr}
theorem Lh.next (h : Lh w g A cp days D W) (hb : newer W W') : Lh w g A cp days D W' :=
  ⟨below_next h.below hb, h.gb.below hb h.gb.lt, (h.hc.below hb).more hb.size, (h.hd.below hb).more hb.size⟩
theorem Lh.made (hc : Row cellL 7 w w.heap.size A g.cells) (hd : Row dayL 3 w w.heap.size D days) : Lh w g A cp days D (w.alloc (.cells (gndC A cp g) 26)) :=
  ⟨(Below.refl _ _).alloc (Nat.le_refl _) _, Whole.made _ _ _, row_alloc hc _, row_alloc hd _⟩
theorem newer_allocH (W : World) (o : Obj) : newer W (W.alloc o) := (Below.refl _ _).alloc (Nat.le_refl _) _
theorem Lh.alloc (h : Lh w g A cp days D W) (o : Obj) : Lh w g A cp days D (W.alloc o) := h.next (newer_allocH W o)
theorem Lh.lt (h : Lh w g A cp days D W) : w.heap.size < W.heap.size := h.gb.lt
end
/-- The greater one of two numbers. -/
def mxI (a b : Int) : Int := if a < b then b else a
/-- The lesser one of two numbers. -/
def mnI (a b : Int) : Int := if b < a then b else a
theorem mnI_le (a b : Int) : mnI a b ≤ a ∧ mnI a b ≤ b ∧ (mnI a b = a ∨ mnI a b = b) := by unfold mnI; split <;> omega
theorem mxI_ge (a b : Int) : a ≤ mxI a b ∧ b ≤ mxI a b ∧ (mxI a b = a ∨ mxI a b = b) := by unfold mxI; split <;> omega
end Go.Proofs.Yteonkhohloabfaa
