/- What is asked. -/
import Derived.Test.YtkenokpobbichaaH
namespace Go.Proofs.Ytkenokpobbichaa
open Go.RowKit Go.Shelf Go.Deep

set_option maxHeartbeats 1000000 in
theorem asked_any (s : Sm) (f : Int) (w : World) (hok : SmOk s w) (few : SmFew s) : Calls Try.prog 72 #[smV s, vi f] w fun e w' => e = .returned (vi (if !slopeB s.sd then 1 else if !inB f 0 10000 then 2 else 0)) ∧ newer w w' := by
  have hnw := newer_allocH w (.cells (smC s) 37)
  have hbx := Whole.made w 37 (smC s)
  have HV := Lib.hid (valid_any s _ (hok.next hnw) few)
  have HW := Lib.hid (fun W => within_any f 0 10000 W)
  have HN := Lib.hid hnw
  have x0 := hbx.at 0 (v := .slice s.a s.cs.length s.c) rfl
  have x1 := hbx.at 1 (v := vi s.least) rfl
  clear hnw hbx
  obtain ⟨q, hq⟩ : ∃ q, q = slopeB s.sd := ⟨_, rfl⟩
  rw [← hq] at HV ⊢
  clear hq
  obtain ⟨r, hr⟩ : ∃ r, r = inB f 0 10000 := ⟨_, rfl⟩
  rw [← hr] at HW ⊢
  clear hr
  go_enter Try.func72, Try.ntmps72
  go_wp2_with fail
  refine (HV.out).mono ?_
  rintro e w1 ⟨rfl, hb⟩
  have HB := Lib.hid (newer_trans HN.out hb)
  clear hb HV
  cases q with
  | false =>
    go_wp2_with fail
    go_ret
    exact ⟨rfl, HB.out⟩
  | true =>
    go_wp2_with fail
    refine (HW.out _).mono ?_
    rintro e w2 ⟨rfl, rfl⟩
    cases r with
    | false =>
      go_wp2_with fail
      go_ret
      exact ⟨rfl, HB.out⟩
    | true =>
      go_wp2_with fail
      go_ret
      exact ⟨rfl, HB.out⟩

end Go.Proofs.Ytkenokpobbichaa
