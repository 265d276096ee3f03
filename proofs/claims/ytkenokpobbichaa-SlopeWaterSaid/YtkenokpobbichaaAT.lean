/- Is no span below a factor, by the reference; the error of a question about a factor. -/
import Derived.Test.YtkenokpobbichaaAQ
namespace Go.Proofs.Ytkenokpobbichaa
open Go.RowKit Go.Shelf Go.Deep

/-- Is no span of the surfaces below a factor? -/
def bearsB (lo f : Int) : Bool := decide (lo < 0) || decide (f ≤ lo)
set_option maxRecDepth 100000 in
set_option maxHeartbeats 1000000 in
theorem bears_any (s : Sm) (us : List Su) (A : Option Addr) (c : Nat) (all : List (Nat × List Nat)) (f : Int) (w : World) (hok : SmOk s w) (hs : SdOk s.sd) (hr : Row suL 2 w w.heap.size A us) (hsi : ∀ x ∈ us, SuOk x w) (he : us.map suK = all.map suP) (hsb : ∀ u ∈ all, SurfB s.sd.n s.cs.length s.sd.K u.1 u.2) (hlen : us.length ≤ 28298170368) :
    Calls Try.prog 33 #[smV s, .slice A us.length c, vi f] w fun e w' => e = .returned (.bool (bearsB (lowestK (refLo s.sd) all (-1)) f)) ∧ newer w w' := by
  have H0 := Lib.hid (And.intro (newer_allocH w (.cells (smC s) 24)) (Whole.made w 24 (smC s)))
  have x0 := H0.out.2.at 0 (v := .slice s.a s.cs.length s.c) rfl
  have x1 := H0.out.2.at 1 (v := vi s.least) rfl
  have HL := Lib.hid (lowest_any s us A c all (w.alloc (.cells (smC s) 24)) (hok.next H0.out.1) hs ((hr.below H0.out.1).more H0.out.1.size) (fun x hx => (hsi x hx).next H0.out.1) he hsb hlen)
  obtain ⟨lo, hlo⟩ : ∃ lo, lo = lowestK (refLo s.sd) all (-1) := ⟨_, rfl⟩
  rw [← hlo] at HL ⊢
  obtain ⟨r, hr2⟩ : ∃ r, r = bearsB lo f := ⟨_, rfl⟩
  rw [← hr2]
  have HV := Lib.hid hr2
  clear hok hs hr hsi he hsb hlo hr2
  go_enter Try.func33, Try.ntmps33
  go_wp2_with fail
  refine (HL.out).mono ?_
  rintro e w2 ⟨rfl, hb⟩
  have H2 := Lib.hid (newer_trans H0.out.1 hb)
  clear x0 x1 hb H0 HL
  by_cases h1 : lo < 0
  · have HR := Lib.hid (show r = true by rw [HV.out]; unfold bearsB; rw [decide_eq_true h1]; rfl)
    go_wp2_with fail
    go_ret
    exact ⟨by rw [HR.out]; rfl, H2.out⟩
  · have HR := Lib.hid (show r = (decide (lo < 0) || decide (f ≤ lo)) from HV.out)
    go_wp2_with fail
    go_ret
    exact ⟨by rw [HR.out]; rfl, H2.out⟩
/-- The error of a question about a factor, by the law. -/
def askN (s : Sd) (f : Int) : Int := if slopeB s = false then 1 else if inB f 0 10000 = false then 2 else 0
set_option maxRecDepth 100000 in
set_option maxHeartbeats 1000000 in
theorem lawAsked (s : Sm) (f : Int) (w : World) (hok : SmOk s w) (few : SmFew s) : Calls Try.prog 32 #[smV s, vi f] w fun e w' => e = .returned (vi (askN s.sd f)) ∧ newer w w' := by
  have H0 := Lib.hid (And.intro (newer_allocH w (.cells (smC s) 24)) (Whole.made w 24 (smC s)))
  have x0 := H0.out.2.at 0 (v := .slice s.a s.cs.length s.c) rfl
  have x1 := H0.out.2.at 1 (v := vi s.least) rfl
  have HR := Lib.hid (right_any s _ (hok.next H0.out.1) few)
  unfold askN
  clear hok few
  cases hv : slopeB s.sd with
  | false =>
    rw [hv] at HR
    rw [if_pos rfl]
    clear hv
    go_enter Try.func32, Try.ntmps32
    go_wp2_with fail
    refine (HR.out).mono ?_
    rintro e w2 ⟨rfl, hb⟩
    have H2 := Lib.hid (newer_trans H0.out.1 hb)
    clear x0 x1 hb H0 HR
    go_wp2_with fail
    go_ret
    exact ⟨rfl, H2.out⟩
  | true =>
    rw [hv] at HR
    rw [if_neg (by decide)]
    have HI := Lib.hid (fun W => in_any f 0 10000 W)
    clear hv
    cases hi : inB f 0 10000 with
    | false =>
      rw [hi] at HI
      rw [if_pos rfl]
      clear hi
      go_enter Try.func32, Try.ntmps32
      go_wp2_with fail
      refine (HR.out).mono ?_
      rintro e w2 ⟨rfl, hb⟩
      have H2 := Lib.hid (newer_trans H0.out.1 hb)
      clear x0 x1 hb H0 HR
      go_wp2_with fail
      refine (HI.out _).mono ?_
      rintro e w3 ⟨rfl, rfl⟩
      go_wp2_with fail
      go_ret
      exact ⟨rfl, H2.out⟩
    | true =>
      rw [hi] at HI
      rw [if_neg (by decide)]
      clear hi
      go_enter Try.func32, Try.ntmps32
      go_wp2_with fail
      refine (HR.out).mono ?_
      rintro e w2 ⟨rfl, hb⟩
      have H2 := Lib.hid (newer_trans H0.out.1 hb)
      clear x0 x1 hb H0 HR
      go_wp2_with fail
      refine (HI.out _).mono ?_
      rintro e w3 ⟨rfl, rfl⟩
      go_wp2_with fail
      go_ret
      exact ⟨rfl, H2.out⟩

end Go.Proofs.Ytkenokpobbichaa
