/- Leaves of the radar layer. -/
import Derived.Test.YtpmafnifgegfbaaP
import Derived.Test.YtpmafnifgegfbaaProg
import Derived.Test.YtpmafnifgegfbaaChecked
import Derived.Test.YtpmafnifgegfbaaRows
namespace Go.Proofs.Ytpmafnifgegfbaa
open Go.RowKit Go.Deep

set_option maxHeartbeats 400000 in
theorem within_any (n lo hi : Int) (w : World) :
    Calls Try.prog 74 #[.int .i64 n, .int .i64 lo, .int .i64 hi] w fun e w' => e = .returned (.bool (inB n lo hi)) ∧ w = w' := by
  by_cases h1 : lo ≤ n <;> by_cases h2 : n ≤ hi <;>
  (go_enter Try.func74, Try.ntmps74
   go_wp2
   go_ret
   exact ⟨by simp [inB, h1, h2], rfl⟩)
set_option maxHeartbeats 400000 in
theorem in_any (n lo hi : Int) (w : World) :
    Calls Try.prog 25 #[.int .i64 n, .int .i64 lo, .int .i64 hi] w fun e w' => e = .returned (.bool (inB n lo hi)) ∧ w = w' := by
  by_cases h1 : lo ≤ n <;> by_cases h2 : n ≤ hi <;>
  (go_enter Try.func25, Try.ntmps25
   go_wp2
   go_ret
   exact ⟨by simp [inB, h1, h2], rfl⟩)
set_option maxHeartbeats 400000 in
theorem amount_any (n : Int) (w : World) (h : -1000000000000 ≤ n ∧ n ≤ 1000000000000) : Calls Try.prog 75 #[vi n] w fun e w' => e = .returned (vi (amt n)) ∧ w = w' := by
  have e : amt n = if n < 0 then -n else n := by unfold amt mxI; split <;> split <;> omega
  rw [e]
  clear e
  by_cases h1 : n < 0
  · rw [if_pos h1]
    go_enter Try.func75, Try.ntmps75
    go_wp2
    go_ret
    exact ⟨ret_int (by omega), rfl⟩
  · rw [if_neg h1]
    go_enter Try.func75, Try.ntmps75
    go_wp2
    go_ret
    exact ⟨ret_int (by omega), rfl⟩
set_option maxHeartbeats 400000 in
theorem abs_any (n : Int) (w : World) (h : -1000000000000 ≤ n ∧ n ≤ 1000000000000) : Calls Try.prog 106 #[vi n] w fun e w' => e = .returned (vi (amt n)) ∧ w = w' := by
  have e : amt n = if n < 0 then -n else n := by unfold amt mxI; split <;> split <;> omega
  rw [e]
  clear e
  by_cases h1 : n < 0
  · rw [if_pos h1]
    go_enter Try.func106, Try.ntmps106
    go_wp2
    go_ret
    exact ⟨ret_int (by omega), rfl⟩
  · rw [if_neg h1]
    go_enter Try.func106, Try.ntmps106
    go_wp2
    go_ret
    exact ⟨ret_int (by omega), rfl⟩
set_option maxHeartbeats 400000 in
theorem right_any (r : Rg) (w : World) : Calls Try.prog 88 #[rgV r] w fun e w' => e = .returned (.bool (rgB r)) ∧ newer w w' := by
  obtain ⟨lo, hi⟩ := r
  have er : rgB ⟨lo, hi⟩ = (decide (-30 ≤ lo) && decide (lo ≤ hi) && decide (hi ≤ mnI 30 (lo + 12))) := rfl
  have em : ∀ x : Int, x ≤ mnI 30 (lo + 12) ↔ x ≤ 30 ∧ x ≤ lo + 12 := fun x => by unfold mnI; split <;> omega
  rw [er]
  clear er
  obtain ⟨q, hq⟩ : ∃ q, q = (decide (-30 ≤ lo) && decide (lo ≤ hi) && decide (hi ≤ mnI 30 (lo + 12))) := ⟨_, rfl⟩
  have HQ := Lib.hid hq
  rw [← hq]
  clear hq
  by_cases h1 : -30 ≤ lo
  · by_cases h2 : lo ≤ hi
    · by_cases hb : lo ≤ 1000
      · by_cases h4 : lo + 12 < 30
        · go_enter Try.func88, Try.ntmps88
          go_wp2
          go_ret
          exact ⟨ret_bool (by rw [HQ.out, Bool.eq_iff_iff]; simp only [Bool.and_eq_true, decide_eq_true_eq, em]; omega), (Below.refl _ _).alloc (Nat.le_refl _) _⟩
        · go_enter Try.func88, Try.ntmps88
          go_wp2
          go_ret
          exact ⟨ret_bool (by rw [HQ.out, Bool.eq_iff_iff]; simp only [Bool.and_eq_true, decide_eq_true_eq, em]; omega), (Below.refl _ _).alloc (Nat.le_refl _) _⟩
      · go_enter Try.func88, Try.ntmps88
        go_wp2
        all_goals
          (go_ret
           exact ⟨ret_bool (by rw [HQ.out, Bool.eq_iff_iff]; simp only [Bool.and_eq_true, decide_eq_true_eq, em]; omega), (Below.refl _ _).alloc (Nat.le_refl _) _⟩)
    · go_enter Try.func88, Try.ntmps88
      go_wp2
      go_ret
      exact ⟨ret_bool (by rw [HQ.out]; simp <;> omega), (Below.refl _ _).alloc (Nat.le_refl _) _⟩
  · go_enter Try.func88, Try.ntmps88
    go_wp2
    go_ret
    exact ⟨ret_bool (by rw [HQ.out]; simp <;> omega), (Below.refl _ _).alloc (Nat.le_refl _) _⟩

end Go.Proofs.Ytpmafnifgegfbaa
