/- A quotient rounded down. -/
import Derived.Test.YtpmafnifgegfbaaN
namespace Go.Proofs.Ytpmafnifgegfbaa
open Go.RowKit Go.Shelf Go.Deep

set_option maxHeartbeats 1000000 in
theorem down_any (n by_ : Int) (w : World) (h1 : -1000000 ≤ n ∧ n ≤ 1000000) (h2 : 1 ≤ by_ ∧ by_ ≤ 1000000) : Calls Try.prog 133 #[vi n, vi by_] w fun r w' => r = .returned (vi (downN n by_)) ∧ newer w w' := by
  have hne : by_ ≠ 0 := by omega
  have hb : -1000000 ≤ n.tdiv by_ ∧ n.tdiv by_ ≤ 1000000 := by
    have a1 := Int.natAbs_tdiv_le_natAbs n by_
    omega
  have hq : IntKind.i64.wrap (n.tdiv by_) = n.tdiv by_ := IntWalk.i64_in _ (by omega)
  unfold downN
  by_cases hr : n.tmod by_ < 0
  · rw [if_pos hr]
    go_enter Try.func133, Try.ntmps133
    go_wp2_with fail
    go_ret
    exact ⟨rfl, Below.refl _ _⟩
  · rw [if_neg hr]
    go_enter Try.func133, Try.ntmps133
    go_wp2_with fail
    go_ret
    exact ⟨rfl, Below.refl _ _⟩

end Go.Proofs.Ytpmafnifgegfbaa
