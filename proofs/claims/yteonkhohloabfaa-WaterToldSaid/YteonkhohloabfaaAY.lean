/- Rows of as many numbers; the greatest level of a cell. -/
import Derived.Test.YteonkhohloabfaaAU
namespace Go.Proofs.Yteonkhohloabfaa
open Go.RowKit

set_option maxRecDepth 100000 in
set_option maxHeartbeats 1000000 in
theorem rows_any {n N : Nat} {f f' : Nat → Nat → Int} {Q Q' : Option Addr} {cq cq' : Nat} (w : World) (hN : N ≤ 1000) (h : vT1 n N f (.slice Q N cq) w) (h' : vT1 n N f' (.slice Q' N cq') w) :
    Calls Try.prog 38 #[.slice Q N cq, .slice Q' N cq'] w fun e w' => e = .returned (.bool true) ∧ Below w.heap.size w w' := by
  have H := Lib.hid h
  have H' := Lib.hid h'
  clear h h'
  go_enter Try.func38, Try.ntmps38
  go_wp2_with fail
  go_loopw [5] (fun s5 wr => ∃ k : Nat, k ≤ N ∧ s5 = .int .i64 k ∧ newer w wr) (fun s5 _ => N - (intOf s5).toNat)
  case atStart => exact ⟨0, Nat.zero_le _, rfl, Below.refl _ _⟩
  case round =>
    obtain ⟨k, hk, rfl, hnw⟩ := hrel
    have HN := Lib.hid hnw
    clear hnw
    by_cases hlt : k < N
    · have hkm : (k : Int) < N := by omega
      obtain ⟨q, Ax, cx, e1, y1, _⟩ := vT1_at (vT1_st _ _ _ H.out HN.out) hlt
      obtain ⟨q', Ax', cx', e2, y2, _⟩ := vT1_at (vT1_st _ _ _ H'.out HN.out) hlt
      subst e1
      subst e2
      go_wp2_with fail
      go_quiet (fail)
      go_wp2_with fail
      exact ⟨⟨k + 1, by omega, by go_num, newer_trans HN.out (newer_drewN _ _)⟩, by (simp only [intOf]; omega)⟩
    · have hkm : ¬ ((k : Int) < N) := by omega
      clear hlt
      go_wp2_with fail
      go_ret
      exact ⟨rfl, HN.out⟩

/-- The greatest of the levels of a cell on the first k days. -/
def highN (f : Nat → Nat → Int) (c : Nat) : Nat → Int
  | 0 => -1
  | k + 1 => if highN f c k < f k c then f k c else highN f c k
set_option maxRecDepth 100000 in
set_option maxHeartbeats 1000000 in
theorem highest_any {n N : Nat} {f : Nat → Nat → Int} {Q : Option Addr} {cq : Nat} (c : Nat) (w : World) (hN : N ≤ 1000) (hc : c < n) (h : vT1 n N f (.slice Q N cq) w) :
    Calls Try.prog 41 #[.slice Q N cq, .int .i64 c] w fun e w' => e = .returned (vi (highN f c N)) ∧ Below w.heap.size w w' := by
  have H := Lib.hid h
  have hcn : (c : Int) < n := by omega
  clear h
  go_enter Try.func41, Try.ntmps41
  go_wp2_with fail
  go_loopw [5, 6] (fun s5 s6 wr => ∃ k : Nat, k ≤ N ∧ s6 = .int .i64 k ∧ s5 = vi (highN f c k) ∧ newer w wr) (fun _ s6 _ => N - (intOf s6).toNat)
  case atStart => exact ⟨0, Nat.zero_le _, rfl, rfl, Below.refl _ _⟩
  case round =>
    obtain ⟨k, hk, rfl, rfl, hnw⟩ := hrel
    have HN := Lib.hid hnw
    clear hnw
    by_cases hlt : k < N
    · have hkm : (k : Int) < N := by omega
      obtain ⟨q, Ax, cx, e1, y1, hr⟩ := vT1_at (vT1_st _ _ _ H.out HN.out) hlt
      obtain ⟨b, off, e2, _, z1⟩ := cells_of_row hr hc
      subst e1
      subst e2
      clear hr
      go_wp2_with fail
      exact ⟨⟨k + 1, by omega, by go_num, rfl, HN.out⟩, by (simp only [intOf]; omega)⟩
    · obtain rfl : k = N := by omega
      have hkm : ¬ ((k : Int) < k) := by omega
      clear hlt
      go_wp2_with fail
      go_ret
      exact ⟨rfl, HN.out⟩
end Go.Proofs.Yteonkhohloabfaa
