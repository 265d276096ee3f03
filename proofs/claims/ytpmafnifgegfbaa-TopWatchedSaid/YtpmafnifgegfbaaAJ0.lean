/- Words that the laws of radar share. -/
import Derived.Test.YtpmafnifgegfbaaAI
namespace Go.Proofs.Ytpmafnifgegfbaa
open Go.RowKit Go.Shelf Go.Deep

/-- A survey for the program; a field for it. -/
def vSv (s : Sd) (_ : Nat) (v : Value) (W : World) : Prop := ∃ z : Sm, v = smV z ∧ z.s = s ∧ SmOk z W
theorem vSv_st {s : Sd} {B : Nat} : ∀ v W W', vSv s B v W → newer W W' → vSv s B v W' := fun _ _ _ ⟨z, h1, h2, h3⟩ hb => ⟨z, h1, h2, h3.next hb⟩
def vFd (f : List Mv) (v : Value) (W : World) : Prop := ∃ B d, v = .slice B f.length d ∧ Row mvL 2 W W.heap.size B f
theorem vFd_st {f : List Mv} : ∀ v W W', vFd f v W → newer W W' → vFd f v W' := fun _ _ _ ⟨B, d, h1, h2⟩ hb => ⟨B, d, h1, (h2.below hb).more hb.size⟩
theorem few_s {y z : Sm} (h : z.s = y.s) (f : SmFew y) : SmFew z := ⟨by rw [h]; exact f.sp, by rw [h]; exact f.tl, by rw [h]; exact f.rd⟩

end Go.Proofs.Ytpmafnifgegfbaa
