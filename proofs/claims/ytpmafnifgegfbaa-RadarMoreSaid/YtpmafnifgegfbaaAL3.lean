/- Numbers stored into rows of one's own. -/
import Derived.Test.YtpmafnifgegfbaaAL2
namespace Go.Proofs.Ytpmafnifgegfbaa
open Go.RowKit Go.Shelf Go.Deep

theorem flat_setN {α : Type} {enc : α → List Value} {s : Nat} (he : ∀ x, (enc x).length = s) {v : Value} {c : Nat} (hc : c < s) : ∀ (l : List α) (i : Nat) (x x' : α), l[i]? = some x → enc x' = (enc x).set c v → (l.flatMap enc).set (i * s + c) v = (l.set i x').flatMap enc
  | [], i, x, x', h, _ => by simp at h
  | a :: l, 0, x, x', h, h2 => by
    simp only [List.getElem?_cons_zero, Option.some.injEq] at h
    subst h
    rw [List.set_cons_zero, List.flatMap_cons, List.flatMap_cons, h2, Nat.zero_mul, Nat.zero_add, List.set_append_left _ _ (by rw [he]; exact hc)]
  | a :: l, i + 1, x, x', h, h2 => by
    simp only [List.getElem?_cons_succ] at h
    rw [List.set_cons_succ, List.flatMap_cons, List.flatMap_cons, ← flat_setN he hc l i x x' h h2, List.set_append_right _ _ (by rw [he, Nat.add_mul]; omega), he]
    rw [show (i + 1) * s + c - s = i * s + c by rw [Nat.add_mul]; omega]
/-- A number stored into a row of one's own. -/
theorem own_put_one {α : Type} {enc : α → List Value} {s : Nat} (he : ∀ x, (enc x).length = s) {w : World} {base g n cp k c : Nat} {ty : TypeId} {l : List α} {x x' : α} {v : Value} (hc : c < s) (h : w.ownsRow base ty s (.slice (some ⟨g, 0, none⟩) n cp) n (l.flatMap enc)) (hk : l[k]? = some x) (h2 : enc x' = (enc x).set c v) :
    (w.setCell ⟨g, k * s + c, none⟩ v).ownsRow base ty s (.slice (some ⟨g, 0, none⟩) n cp) n ((l.set k x').flatMap enc) := by
  rw [← flat_setN he hc l k x x' hk h2]
  exact own_setAt h
theorem set_at {α : Type} {l : List α} {k : Nat} {x x' : α} (hk : l[k]? = some x) : (l.set k x')[k]? = some x' := by rw [List.getElem?_set, if_pos rfl, if_pos (List.getElem?_eq_some_iff.1 hk).1]

end Go.Proofs.Ytpmafnifgegfbaa
