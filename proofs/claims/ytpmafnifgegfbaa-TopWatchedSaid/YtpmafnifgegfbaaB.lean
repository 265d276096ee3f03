/- What a tool sees, and what it may be off; sums; tests of lists. -/
import Derived.Test.YtpmafnifgegfbaaA
namespace Go.Proofs.Ytpmafnifgegfbaa
open Go.RowKit Go.Deep

theorem sum_take1 {l : List Int} {k : Nat} {x : Int} (h : l[k]? = some x) : (l.take (k + 1)).sum = (l.take k).sum + x := by
  rw [List.take_add_one, h]
  simp
set_option maxHeartbeats 400000 in
theorem sum_any (l : List Int) (cp : Nat) (A : Option Addr) (w : World) (hn : l.length ≤ 1000) (hb : ∀ k, -1000000000000 ≤ (l.take k).sum ∧ (l.take k).sum ≤ 1000000000000) (hrow : Row intL 1 w w.heap.size A l) :
    Calls Try.prog 134 #[.slice A l.length cp] w fun e w' => e = .returned (vi l.sum) ∧ newer w w' := by
  have HB := Lib.hid hb
  clear hb
  go_enter Try.func134, Try.ntmps134
  go_wp2
  go_loopw [2, 4, 7] (fun s2 _ s7 wr => ∃ k : Nat, k ≤ l.length ∧ s7 = vi k ∧ s2 = vi (l.take k).sum ∧ newer w wr) (fun _ _ s7 _ => l.length - (intOf s7).toNat)
  case atStart => exact ⟨0, Nat.zero_le _, rfl, rfl, Below.refl _ _⟩
  case round =>
    obtain ⟨k, hk, rfl, rfl, hbw⟩ := hrel
    by_cases hlt : k < l.length
    · obtain ⟨c, hc⟩ := get_of_lt (l := l) (k := k) hlt
      obtain ⟨b, off, rfl, hb, h0⟩ := row1 (hrow.below hbw) hc
      have e := sum_take1 hc
      have b1 := HB.out k
      have b2 := HB.out (k + 1)
      have HE := Lib.hid e
      obtain ⟨q, hq⟩ : ∃ q, q = (l.take k).sum := ⟨_, rfl⟩
      have HC := Lib.hid hc
      rw [← hq] at e b1 ⊢
      have b3 : -1000000000000 ≤ q + c ∧ q + c ≤ 1000000000000 := by omega
      have HQ := Lib.hid hq
      clear hc e b2 hq
      go_wp2_with fail
      go_roundw
      case rel => exact ⟨k + 1, by omega, by go_num, by rw [HE.out, ← HQ.out], hbw⟩
      case measure => simp [intOf]; omega
    · have e : l.take k = l := List.take_of_length_le (by omega)
      rw [e]
      go_wp2_with fail
      go_ret
      exact ⟨rfl, hbw⟩
set_option maxHeartbeats 400000 in
theorem sight_any (t : Tl) (m : Mv) (w : World) (ha : -1000 ≤ t.a ∧ t.a ≤ 1000) (hb : -1000 ≤ t.b ∧ t.b ≤ 1000) (hx : -1000 ≤ m.1 ∧ m.1 ≤ 1000) (hy : -1000 ≤ m.2 ∧ m.2 ≤ 1000) : Calls Try.prog 108 #[tlV t, mvV m] w fun e w' => e = .returned (vi (sightN t m)) ∧ newer w w' := by
  have h1 := mulb ha hx
  have h2 := mulb hb hy
  unfold sightN
  obtain ⟨spot, a, b, turn, er, dr, si⟩ := t
  obtain ⟨x, y⟩ := m
  dsimp only at h1 h2 ha hb hx hy ⊢
  have HN := Lib.hid (newer_trans (newer_allocH w (.cells #[vi spot, vi a, vi b, vi turn, vi er, vi dr, vi si] 112)) (newer_allocH (w.alloc (.cells #[vi spot, vi a, vi b, vi turn, vi er, vi dr, vi si] 112)) (.cells #[vi x, vi y] 116)))
  go_enter Try.func108, Try.ntmps108
  go_wp2
  go_ret
  exact ⟨rfl, HN.out⟩
set_option maxHeartbeats 400000 in
theorem refSight_any (t : Tl) (m : Mv) (w : World) (ha : -1000 ≤ t.a ∧ t.a ≤ 1000) (hb : -1000 ≤ t.b ∧ t.b ≤ 1000) (hx : -1000 ≤ m.1 ∧ m.1 ≤ 1000) (hy : -1000 ≤ m.2 ∧ m.2 ≤ 1000) : Calls Try.prog 23 #[tlV t, mvV m] w fun e w' => e = .returned (vi (sightN t m)) ∧ newer w w' := by
  have h1 := mulb ha hx
  have h2 := mulb hb hy
  unfold sightN
  obtain ⟨spot, a, b, turn, er, dr, si⟩ := t
  obtain ⟨x, y⟩ := m
  dsimp only at h1 h2 ha hb hx hy ⊢
  have HN := Lib.hid (newer_trans (newer_allocH w (.cells #[vi spot, vi a, vi b, vi turn, vi er, vi dr, vi si] 43)) (newer_allocH (w.alloc (.cells #[vi spot, vi a, vi b, vi turn, vi er, vi dr, vi si] 43)) (.cells #[vi x, vi y] 47)))
  go_enter Try.func23, Try.ntmps23
  go_wp2
  go_ret
  exact ⟨rfl, HN.out⟩
set_option maxHeartbeats 400000 in
theorem refOff_any (t : Tl) (day : Int) (w : World) (he : 0 ≤ t.err ∧ t.err ≤ 1000) (hd : 0 ≤ t.drift ∧ t.drift ≤ 1000) (hs : 0 ≤ t.since ∧ t.since ≤ 1000) (hy : 0 ≤ day ∧ day ≤ 1000) : Calls Try.prog 22 #[tlV t, vi day] w fun e w' => e = .returned (vi (offN t day)) ∧ newer w w' := by
  have h1 := mulb (a := t.drift) (x := day - t.since) (A := 1000) (X := 1000) (by omega) (by omega)
  unfold offN
  obtain ⟨spot, a, b, turn, er, dr, si⟩ := t
  dsimp only at h1 he hd hs ⊢
  go_enter Try.func22, Try.ntmps22
  go_wp2
  go_ret
  exact ⟨rfl, (Below.refl _ _).alloc (Nat.le_refl _) _⟩

end Go.Proofs.Ytpmafnifgegfbaa
