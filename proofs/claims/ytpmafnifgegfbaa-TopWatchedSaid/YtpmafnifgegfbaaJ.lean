/- Ends with one number more. -/
import Derived.Test.YtpmafnifgegfbaaI
namespace Go.Proofs.Ytpmafnifgegfbaa
open Go.RowKit Go.Shelf Go.Deep

abbrev prV (e : Int × Int) : Value := .agg #[vi e.1, vi e.2]
theorem made2 (w : World) (A : Obj) (x y : Int) : ((w.alloc A).alloc (.cells #[vi x, vi y] 130)).cell? ⟨w.heap.size + 1, 0, none⟩ = some (vi x) ∧ ((w.alloc A).alloc (.cells #[vi x, vi y] 130)).cell? ⟨w.heap.size + 1, 1, none⟩ = some (vi y) := by
  have h := Whole.made (w.alloc A) 130 #[vi x, vi y]
  simp only [World.size_alloc] at h
  exact ⟨h.at 0 rfl, h.at 1 rfl⟩
set_option maxHeartbeats 1000000 in
theorem joined_any (e : Int × Int) (n : Int) (first : Bool) (w : World) : Calls Try.prog 63 #[prV e, vi n, .bool first] w fun r w' => r = .returned (prV (joinN e n first)) ∧ newer w w' := by
  obtain ⟨a, b⟩ := e
  cases first
  · unfold joinN mnI mxI
    simp only [Bool.false_eq_true, if_false]
    by_cases h1 : n < a
    · by_cases h2 : b < n
      · rw [if_pos h1, if_pos h2]
        go_enter Try.func63, Try.ntmps63
        go_wp2_with fail
        obtain ⟨z0, z1⟩ := made2 w (.cells #[vi a, vi b] 130) n n
        exact bodyPost_ret (v := .agg #[vi n, vi n]) (by simp [results, Try.results63, go_sem, z0, z1]) rfl ⟨rfl, newer_trans (newer_allocH _ _) (newer_allocH _ _)⟩
      · rw [if_pos h1, if_neg h2]
        go_enter Try.func63, Try.ntmps63
        go_wp2_with fail
        obtain ⟨z0, z1⟩ := made2 w (.cells #[vi a, vi b] 130) n b
        exact bodyPost_ret (v := .agg #[vi n, vi b]) (by simp [results, Try.results63, go_sem, z0, z1]) rfl ⟨rfl, newer_trans (newer_allocH _ _) (newer_allocH _ _)⟩
    · by_cases h2 : b < n
      · rw [if_neg h1, if_pos h2]
        go_enter Try.func63, Try.ntmps63
        go_wp2_with fail
        obtain ⟨z0, z1⟩ := made2 w (.cells #[vi a, vi b] 130) a n
        exact bodyPost_ret (v := .agg #[vi a, vi n]) (by simp [results, Try.results63, go_sem, z0, z1]) rfl ⟨rfl, newer_trans (newer_allocH _ _) (newer_allocH _ _)⟩
      · rw [if_neg h1, if_neg h2]
        go_enter Try.func63, Try.ntmps63
        go_wp2_with fail
        obtain ⟨z0, z1⟩ := made2 w (.cells #[vi a, vi b] 130) a b
        exact bodyPost_ret (v := .agg #[vi a, vi b]) (by simp [results, Try.results63, go_sem, z0, z1]) rfl ⟨rfl, newer_trans (newer_allocH _ _) (newer_allocH _ _)⟩
  · unfold joinN
    simp only [if_true]
    go_enter Try.func63, Try.ntmps63
    go_wp2_with fail
    obtain ⟨z0, z1⟩ := made2 w (.cells #[vi a, vi b] 130) n n
    exact bodyPost_ret (v := .agg #[vi n, vi n]) (by simp [results, Try.results63, go_sem, z0, z1]) rfl ⟨rfl, newer_trans (newer_allocH _ _) (newer_allocH _ _)⟩

end Go.Proofs.Ytpmafnifgegfbaa
