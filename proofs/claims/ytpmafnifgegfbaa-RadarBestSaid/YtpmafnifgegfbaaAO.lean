/- A number of a range, by words. -/
import Derived.Test.YtpmafnifgegfbaaAL
import Derived.Test.YtpmafnifgegfbaaPF
namespace Go.Proofs.Ytpmafnifgegfbaa
open Go.RowKit Go.Shelf Go.Deep

theorem row_half {w : World} {B : Nat} {A : Option Addr} {l : List Hlf} (h : Row hwL 1 w B A l) {k : Nat} {c : Hlf} (hk : l[k]? = some c) :
    ∃ b off, A = some ⟨b, off, none⟩ ∧ b < B ∧ w.cell? ⟨b, off + k, none⟩ = some (.int .u16 c.n) := by
  obtain ⟨b, off, e, hb, hc⟩ := h (ne_nil_of_get hk)
  exact ⟨b, off, e, hb, by simpa using hc k c hk 0 _ rfl⟩
set_option maxRecDepth 100000 in
set_option maxHeartbeats 1000000 in
theorem pick_any (low high : Int) (ws : List Hlf) (A : Option Addr) (c i : Nat) (w : World) (hl : -2000 ≤ low ∧ low ≤ high ∧ high ≤ 2000) (hwl : ws.length ≤ maxLen) (hi : i ≤ 1000) (hr : Row hwL 1 w w.heap.size A ws) :
    Calls Try.prog 79 #[vi low, vi high, .slice A ws.length c, vi (i : Int)] w fun e w' => e = .returned (vi (pickN low high ws i)) ∧ newer w w' := by
  by_cases hbe : ws = []
  · subst hbe
    have HP := Lib.hid (show pickN low high [] i = low from rfl)
    clear hr
    go_enter Try.func79, Try.ntmps79
    go_wp2_with fail
    go_ret
    exact ⟨by rw [HP.out]; rfl, newer_refl _⟩
  · have hl0 : 0 < ws.length := List.length_pos_iff.2 hbe
    have hbn : ¬ (ws = []) := hbe
    have hcz : ¬ ((ws.length : Int) = 0) := by omega
    obtain ⟨j, hj⟩ : ∃ j, j = i % ws.length := ⟨_, rfl⟩
    have hjl : j < ws.length := by rw [hj]; exact Nat.mod_lt _ hl0
    have hjn : (j : Int) < ws.length := by omega
    have ej : (i : Int).tmod ws.length = j := by rw [hj, Int.tmod_eq_emod_of_nonneg (by omega)]; exact (Int.natCast_emod _ _).symm
    obtain ⟨y, hy⟩ := get_of_lt hjl
    have hrow := row_half hr hy
    have HP : Hid (pickN low high ws i = if y.n % 4 = 0 then low else if y.n % 4 = 1 then high else low + y.n % (high - low + 1)) := Lib.hid (by unfold pickN; rw [← hj, hy])
    obtain ⟨ab, ao, rfl, _, cb⟩ := hrow
    have hb0 := y.lo
    have hb1 := y.hi
    obtain ⟨yn, hyn⟩ : ∃ yn : Int, yn = y.n := ⟨_, rfl⟩
    rw [← hyn] at cb hb0 hb1 HP
    have e31 : IntKind.i64.wrap yn = yn := IntWalk.i64_in _ (by omega)
    obtain ⟨r4, hr4⟩ : ∃ r, r = yn % 4 := ⟨_, rfl⟩
    have e4 : yn.tmod 4 = r4 := by rw [hr4, Int.tmod_eq_emod_of_nonneg hb0]
    have hr4b : 0 ≤ r4 ∧ r4 < 4 := by omega
    obtain ⟨m, hm⟩ : ∃ m, m = high - low + 1 := ⟨_, rfl⟩
    obtain ⟨rm, hrm⟩ : ∃ r, r = yn % m := ⟨_, rfl⟩
    have em : yn.tmod (high - low + 1) = rm := by rw [hrm, hm, Int.tmod_eq_emod_of_nonneg hb0]
    have hmz : ¬ (high - low + 1 = 0) := by omega
    have hrmb : 0 ≤ rm ∧ rm < m := by rw [hrm]; exact ⟨Int.emod_nonneg _ (by omega), Int.emod_lt_of_pos _ (by omega)⟩
    have hlr : low + rm ≤ high ∧ 0 ≤ rm := by omega
    rw [← hr4, ← hm, ← hrm] at HP
    have hl1 := hl.1
    have hl2 := hl.2.1
    have hl3 := hl.2.2
    have HR := Lib.hid (And.intro hr4 (And.intro hm (And.intro hrm hyn)))
    clear hr hy hj hbe hr4 hm hrm hrmb hl hyn
    by_cases h0 : r4 = 0
    · have HP1 := Lib.hid (show pickN low high ws i = low by rw [HP.out, if_pos h0])
      clear HP
      subst h0
      go_enter Try.func79, Try.ntmps79
      go_wp2_with fail
      go_ret
      exact ⟨by rw [HP1.out]; rfl, newer_refl _⟩
    · have h0b : (r4 == 0) = false := by simpa using h0
      by_cases h1 : r4 = 1
      · have HP1 := Lib.hid (show pickN low high ws i = high by rw [HP.out, if_neg h0, if_pos h1])
        clear HP
        subst h1
        go_enter Try.func79, Try.ntmps79
        go_wp2_with fail
        go_ret
        exact ⟨by rw [HP1.out]; rfl, newer_refl _⟩
      · have h1b : (r4 == 1) = false := by simpa using h1
        have HNE := Lib.hid (And.intro h0 h1)
        go_enter Try.func79, Try.ntmps79
        go_wp2_with fail
        go_ret
        exact ⟨by rw [HP.out, if_neg HNE.out.1, if_neg HNE.out.2]; rfl, newer_refl _⟩

end Go.Proofs.Ytpmafnifgegfbaa
