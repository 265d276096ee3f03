/- Is there no surface below a factor? -/
import Derived.Test.YtkenokpobbichaaM
namespace Go.Proofs.Ytkenokpobbichaa
open Go.RowKit Go.Shelf Go.Deep

def askedN (s : Sd) (f : Int) : Int := if !slopeB s then 1 else if !inB f 0 10000 then 2 else 0
def enoughN (s : Sd) (f : Int) : Int := if askedN s f = 0 then (if (lowT s f (some false)).isSome then 10 else 0) else askedN s f
theorem asked_zero {s : Sd} {f : Int} (h : askedN s f = 0) : SdOk s ∧ 0 ≤ f ∧ f ≤ 10000 := by
  unfold askedN at h
  cases hv : slopeB s with
  | false => rw [hv] at h; simp at h
  | true =>
    rw [hv] at h
    cases hf : inB f 0 10000 with
    | false => rw [hf] at h; simp at h
    | true =>
      simp only [inB, Bool.and_eq_true, decide_eq_true_eq] at hf
      exact ⟨sdOk_iff.1 hv, hf⟩
set_option maxRecDepth 100000 in
set_option maxHeartbeats 1000000 in
theorem enough_any (s : Sm) (f : Int) (w : World) (hok : SmOk s w) (few : SmFew s) : Calls Try.prog 70 #[smV s, vi f] w fun e w' => e = .returned (vi (enoughN s.sd f)) ∧ newer w w' := by
  have hnw : newer w (w.alloc (.cells (smC s) 37)) := newer_allocH _ _
  have hxb := Whole.made w 37 (smC s)
  have HA := Lib.hid (show Calls Try.prog 72 #[smV s, vi f] (w.alloc (.cells (smC s) 37)) fun e w' => e = .returned (vi (askedN s.sd f)) ∧ newer (w.alloc (.cells (smC s) 37)) w' from asked_any s f _ (hok.next hnw) few)
  have x0 := hxb.at 0 (v := .slice s.a s.cs.length s.c) rfl
  have x1 := hxb.at 1 (v := vi s.least) rfl
  have H0 := Lib.hid (And.intro hnw hxb)
  have HOK := Lib.hid hok
  clear hok hnw hxb few
  unfold enoughN
  have HZ : Hid (askedN s.sd f = 0 → SdOk s.sd ∧ 0 ≤ f ∧ f ≤ 10000) := Lib.hid asked_zero
  obtain ⟨a, ha⟩ : ∃ a, a = askedN s.sd f := ⟨_, rfl⟩
  rw [← ha] at HA HZ ⊢
  clear ha
  by_cases hz : a = 0
  · subst hz
    obtain ⟨hs, f0, f1⟩ := HZ.out rfl
    rw [if_pos rfl]
    obtain ⟨R, hR⟩ : ∃ R, R = lowT s.sd f (some false) := ⟨_, rfl⟩
    have HLOW : Hid (∀ W, newer w W → Calls Try.prog 66 #[lkV s f (some false)] W fun e w' => lowOut R W e w' ∧ newer W w') := Lib.hid (fun W h => by rw [hR]; exact lower_any s f (some false) W (HOK.out.next h) hs f0 (by omega))
    rw [← hR]
    clear hR HZ hs
    go_enter Try.func70, Try.ntmps70
    go_wp2_with fail
    refine (HA.out).mono ?_
    rintro e w1 ⟨rfl, hb⟩
    have H1 := Lib.hid (And.intro (newer_trans H0.out.1 hb) (H0.out.2.below hb H0.out.2.lt))
    clear H0 hb HA x0 x1
    have x0 := H1.out.2.at 0 (v := .slice s.a s.cs.length s.c) rfl
    have x1 := H1.out.2.at 1 (v := vi s.least) rfl
    go_wp2_with fail
    refine (below_any s f _).mono ?_
    rintro e w3 ⟨rfl, hb3⟩
    have H3 := Lib.hid (newer_trans H1.out.1 hb3)
    clear H1 hb3 x0 x1
    go_wp2_with fail
    refine (HLOW.out w3 H3.out).mono ?_
    rintro e w4 ⟨hout, hb4⟩
    have H4 := Lib.hid (newer_trans H3.out hb4)
    clear H3 hb4
    cases R with
    | none =>
      have hout2 : e = .returned (.tuple #[.agg #[vi 0, .slice none 0 0], .bool false]) := hout
      subst hout2
      clear hout
      have HE := Lib.hid (newer_trans H4.out (newer_allocH w4 (.cells #[vi 0, .slice none 0 0] 39)))
      go_wp2_with fail
      go_ret
      exact ⟨rfl, HE.out⟩
    | some u =>
      obtain ⟨k, l⟩ := u
      have hout2 : ∃ A c, e = .returned (.tuple #[.agg #[vi k, .slice A l.length c], .bool true]) ∧ w4.ownsRow w3.heap.size 3 1 (.slice A l.length c) l.length (l.map fun x : Nat => vi x) := hout
      obtain ⟨A, c, rfl, _⟩ := hout2
      clear hout
      have HE := Lib.hid (newer_trans H4.out (newer_allocH w4 (.cells #[vi k, .slice A l.length c] 39)))
      go_wp2_with fail
      go_ret
      exact ⟨rfl, HE.out⟩
  · rw [if_neg hz]
    have hz2 : (a == 0) = false := by rw [beq_eq_false_iff_ne]; exact hz
    have hz3 : (a != 0) = true := by simp [hz]
    clear HZ
    go_enter Try.func70, Try.ntmps70
    go_wp2_with fail
    refine (HA.out).mono ?_
    rintro e w1 ⟨rfl, hb⟩
    have HE := Lib.hid (newer_trans H0.out.1 hb)
    clear H0 hb HA x0 x1
    go_wp2_with fail
    go_ret
    exact ⟨rfl, HE.out⟩

end Go.Proofs.Ytkenokpobbichaa
