/- Two new blocks of a drawn region are apart: a fact about the act. -/
import Derived.Test.YtpmafnifgegfbaaGY
namespace Go.Proofs.Ytpmafnifgegfbaa
open Go.RowKit

theorem slotOf_other {a : Act} {p : Tmp} {d : Option Tmp} {v : Value} (h : d ≠ some p) : slotOf (a.put d v) p = slotOf a p := by
  cases d with
  | none => rfl
  | some d =>
    have h2 : d ≠ p := fun e => h (by rw [e])
    simp [slotOf, Act.put, h2]
theorem slotOf_own {a : Act} {p : Tmp} {v u : Value} (h : slotOf (a.put (some p) v) p = u) : u = v ∨ u = undef := by
  simp only [slotOf, Act.put, Array.getElem?_setIfInBounds] at h
  split at h
  · split at h
    · exact .inl h.symm
    · exact .inr h.symm
  · rename_i e
    exact absurd trivial e
/-- The two blocks that the slots p and q hold, where they are new, are apart. -/
structure Apart2 (w : World) (p q : Tmp) (a : Act) (W : World) : Prop where
  bl : Below w.heap.size w W
  p1 : ∀ g o, slotOf a p = .pointer (some ⟨g, o, none⟩) → w.heap.size ≤ g → g < W.heap.size
  q1 : ∀ g o, slotOf a q = .pointer (some ⟨g, o, none⟩) → w.heap.size ≤ g → g < W.heap.size
  ne : ∀ g o g' o', slotOf a p = .pointer (some ⟨g, o, none⟩) → slotOf a q = .pointer (some ⟨g', o', none⟩) → w.heap.size ≤ g → w.heap.size ≤ g' → g ≠ g'
theorem Apart2.put {w W W' : World} {p q : Tmp} {a : Act} (h : Apart2 w p q a W) (hb : newer W W') {d : Option Tmp} {v : Value} (hp : d ≠ some p) (hq : d ≠ some q) : Apart2 w p q (a.put d v) W' := by
  refine ⟨below_next h.bl hb, fun g o hg hl => ?_, fun g o hg hl => ?_, fun g o g' o' hg hg' => ?_⟩
  · rw [slotOf_other hp] at hg
    exact Nat.lt_of_lt_of_le (h.p1 g o hg hl) hb.size
  · rw [slotOf_other hq] at hg
    exact Nat.lt_of_lt_of_le (h.q1 g o hg hl) hb.size
  · rw [slotOf_other hp] at hg
    rw [slotOf_other hq] at hg'
    exact h.ne g o g' o' hg hg'
theorem Apart2.newP {w W : World} {p q : Tmp} {a : Act} (h : Apart2 w p q a W) (hpq : p ≠ q) (o : Obj) : Apart2 w p q (a.put (some p) (.pointer (some ⟨W.heap.size, 0, none⟩))) (W.alloc o) := by
  have hb := newer_allocH W o
  have hq : (some p : Option Tmp) ≠ some q := fun e => hpq (Option.some.inj e)
  refine ⟨below_next h.bl hb, fun g o hg hl => ?_, fun g o hg hl => ?_, fun g o g' o' hg hg' hl hl' => ?_⟩
  · rcases slotOf_own hg with e | e
    · injection e with e
      injection e with e
      injection e with e
      rw [World.size_alloc, e]
      omega
    · cases e
  · rw [slotOf_other hq] at hg
    have := h.q1 g o hg hl
    rw [World.size_alloc]
    omega
  · rw [slotOf_other hq] at hg'
    have h1 := h.q1 g' o' hg' hl'
    rcases slotOf_own hg with e | e
    · injection e with e
      injection e with e
      injection e with e
      omega
    · cases e
theorem Apart2.newQ {w W : World} {p q : Tmp} {a : Act} (h : Apart2 w p q a W) (hpq : p ≠ q) (o : Obj) : Apart2 w p q (a.put (some q) (.pointer (some ⟨W.heap.size, 0, none⟩))) (W.alloc o) := by
  have hb := newer_allocH W o
  have hp : (some q : Option Tmp) ≠ some p := fun e => hpq (Option.some.inj e).symm
  refine ⟨below_next h.bl hb, fun g o hg hl => ?_, fun g o hg hl => ?_, fun g o g' o' hg hg' hl hl' => ?_⟩
  · rw [slotOf_other hp] at hg
    have := h.p1 g o hg hl
    rw [World.size_alloc]
    omega
  · rcases slotOf_own hg with e | e
    · injection e with e
      injection e with e
      injection e with e
      rw [World.size_alloc, e]
      omega
    · cases e
  · rw [slotOf_other hp] at hg
    have h1 := h.p1 g o hg hl
    rcases slotOf_own hg' with e | e
    · injection e with e
      injection e with e
      injection e with e
      omega
    · cases e
theorem Apart2.step {w W W' : World} {p q : Tmp} {a : Act} (h : Apart2 w p q a W) (hb : Below w.heap.size w W') (hs : W.heap.size ≤ W'.heap.size) : Apart2 w p q a W' :=
  ⟨hb, fun g o hg hl => Nat.lt_of_lt_of_le (h.p1 g o hg hl) hs, fun g o hg hl => Nat.lt_of_lt_of_le (h.q1 g o hg hl) hs, h.ne⟩
theorem Apart2.start {w : World} {p q : Tmp} {a : Act} (hp : ∀ g o, slotOf a p = .pointer (some ⟨g, o, none⟩) → g < w.heap.size) (hq : ∀ g o, slotOf a q = .pointer (some ⟨g, o, none⟩) → g < w.heap.size) : Apart2 w p q a w.drew :=
  ⟨(Below.refl _ w).drew, fun g o hg _ => hp g o hg, fun g o hg _ => hq g o hg, fun g o _ _ hg _ hl => absurd (hp g o hg) (by omega)⟩

end Go.Proofs.Ytpmafnifgegfbaa
