/- What holds and what drives along a surface, as sums. -/
import Derived.Test.YtkenokpobbichaaAH
namespace Go.Proofs.Ytkenokpobbichaa
open Go.RowKit Go.Shelf Go.Deep

theorem hK_cons (x : Bd) (bs : List Bd) (tr : Nat → Rl) : ∀ m, hK (x :: bs) tr (m + 1) = holdsN x (tr 0) + hK bs (fun i => tr (i + 1)) m
  | 0 => by simp [hK, List.getD]
  | m + 1 => by
    rw [hK, hK_cons x bs tr m]
    simp [hK, List.getD]
    omega
theorem dK_cons (x : Bd) (bs : List Bd) : ∀ m, dK (x :: bs) (m + 1) = x.drive + dK bs m
  | 0 => by simp [dK, List.getD]
  | m + 1 => by
    rw [dK, dK_cons x bs m]
    simp [dK, List.getD]
    omega
theorem hK_sum (s : Sd) (hi : Bool) : ∀ (l : List Nat) (k : Nat), hK (bedsL s.cols k l) (fun i => endR hi ((bedsL s.cols k l).getD i zeroBd)) l.length = sumH (hAt hi s) k l
  | [], _ => rfl
  | b :: t, k => by
    show hK (bdAt s.cols k b :: bedsL s.cols (k + 1) t) (fun i => endR hi ((bdAt s.cols k b :: bedsL s.cols (k + 1) t).getD i zeroBd)) (t.length + 1) = hAt hi s k b + sumH (hAt hi s) (k + 1) t
    rw [hK_cons]
    have ih := hK_sum s hi t (k + 1)
    have e : holdsN (bdAt s.cols k b) (endR hi (bdAt s.cols k b)) = hAt hi s k b := by
      unfold bdAt hAt
      cases bedAt s.cols k b with
      | none => cases hi <;> decide
      | some x => rfl
    simp only [List.getD_cons_zero, List.getD_cons_succ]
    rw [ih, e]
theorem dK_sum (s : Sd) : ∀ (l : List Nat) (k : Nat), dK (bedsL s.cols k l) l.length = sumH (dAt s) k l
  | [], _ => rfl
  | b :: t, k => by
    show dK (bdAt s.cols k b :: bedsL s.cols (k + 1) t) (t.length + 1) = dAt s k b + sumH (dAt s) (k + 1) t
    rw [dK_cons, dK_sum s t (k + 1)]
    have e : (bdAt s.cols k b).drive = dAt s k b := by
      unfold bdAt dAt
      cases bedAt s.cols k b with
      | none => rfl
      | some x => rfl
    rw [e]
theorem refE_sum (s : Sd) (hi : Bool) (k : Nat) (l : List Nat) : refE (bedsL s.cols k l) hi = refF (sumH (hAt hi s) k l) (sumH (dAt s) k l) := by
  unfold refE refF facE
  rw [bedsL_len, hK_sum, dK_sum]

end Go.Proofs.Ytkenokpobbichaa
