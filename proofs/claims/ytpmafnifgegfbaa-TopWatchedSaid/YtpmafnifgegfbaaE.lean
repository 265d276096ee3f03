/- What a tool may be off on a day. -/
import Derived.Test.YtpmafnifgegfbaaD
namespace Go.Proofs.Ytpmafnifgegfbaa
open Go.RowKit Go.Deep

theorem sum2_any (x y : Int) (b : Nat) (w : World) (hx : -1000000000 ≤ x ∧ x ≤ 1000000000) (hy : -1000000000 ≤ y ∧ y ≤ 1000000000) (hw : Whole w b 3 #[vi x, vi y]) :
    Calls Try.prog 134 #[.slice (some ⟨b, 0, none⟩) 2 2] w fun e w' => e = .returned (vi (x + y)) ∧ newer w w' := by
  have h := sum_any [x, y] 2 (some ⟨b, 0, none⟩) w (by simp) (fun k => by
    match k with
    | 0 => simp
    | 1 => simp; omega
    | k + 2 => simp; omega) (row_of_whole (enc := intL) (s := 1) (fun _ => rfl) hw rfl)
  simpa using h
set_option maxHeartbeats 400000 in
theorem off_any (t : Tl) (day : Int) (w : World) (he : 0 ≤ t.err ∧ t.err ≤ 1000) (hd : 0 ≤ t.drift ∧ t.drift ≤ 1000) (hs : 0 ≤ t.since ∧ t.since ≤ 1000) (hy : 0 ≤ day ∧ day ≤ 1000) : Calls Try.prog 107 #[tlV t, vi day] w fun e w' => e = .returned (vi (offN t day)) ∧ newer w w' := by
  have h1 := mulb (a := t.drift) (x := day - t.since) (A := 1000) (X := 1000) (by omega) (by omega)
  have hw := Whole.made (w.alloc (.cells (tlC t) 112)) 3 #[vi t.err, vi (t.drift * (day - t.since))]
  simp only [World.size_alloc] at hw
  have HS := Lib.hid (sum2_any t.err (t.drift * (day - t.since)) _ _ (by omega) (by omega) hw)
  have HN := Lib.hid (newer_trans (newer_allocH w (.cells (tlC t) 112)) (newer_allocH (w.alloc (.cells (tlC t) 112)) (.cells #[vi t.err, vi (t.drift * (day - t.since))] 3)))
  clear hw
  unfold offN
  obtain ⟨spot, a, b, turn, er, dr, si⟩ := t
  dsimp only at h1 he hd hs ⊢
  go_enter Try.func107, Try.ntmps107
  go_wp2_with fail
  refine (HS.out).mono ?_
  rintro e w' ⟨rfl, hb⟩
  have HB := Lib.hid (newer_trans HN.out hb)
  clear hb
  go_wp2_with fail
  go_ret
  exact ⟨rfl, HB.out⟩

end Go.Proofs.Ytpmafnifgegfbaa
