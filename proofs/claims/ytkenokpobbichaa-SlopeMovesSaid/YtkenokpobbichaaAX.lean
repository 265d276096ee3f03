/- How much more water a slope bears, by the reference. -/
import Derived.Test.YtkenokpobbichaaAV
import Derived.Test.YtkenokpobbichaaAW
namespace Go.Proofs.Ytkenokpobbichaa
open Go.RowKit Go.Shelf Go.Deep

set_option maxRecDepth 100000 in
set_option maxHeartbeats 400000 in
theorem marginR_any (s : Sm) (us : List Su) (A : Option Addr) (c : Nat) (f : Int) (w : World) (hok : SmOk s w) (hs : SdOk s.sd) (hr : Row suL 2 w w.heap.size A us) (hsi : ∀ x ∈ us, SuOk x w) (he : us.map suK = (allR s.sd.n s.cs.length s.sd.K).map suP) (hlen : us.length ≤ 28298170368) (f0 : 0 ≤ f) (f1 : f ≤ 10000) (hd : bearsB (lowestK (refLo s.sd) (allR s.sd.n s.cs.length s.sd.K) (-1)) f = true) :
    Calls Try.prog 34 #[smV s, .slice A us.length c, vi f] w fun e w' => e = .returned (vi (marginS s.sd f)) ∧ newer w w' := by
  have H0 := Lib.hid (And.intro (newer_allocH w (.cells (smC s) 24)) (Whole.made w 24 (smC s)))
  have x0 := H0.out.2.at 0 (v := .slice s.a s.cs.length s.c) rfl
  have x1 := H0.out.2.at 1 (v := vi s.least) rfl
  obtain ⟨bw, hbw⟩ : ∃ bw : Nat → Bool, bw = fun m : Nat => bearsB (lowestK (refLo (wetS s.sd m)) (allR s.sd.n s.cs.length s.sd.K) (-1)) f := ⟨_, rfl⟩
  have HW : Hid (∀ (n : Nat) (W : World), n ≤ 100000 → newer w W → Calls Try.prog 39 #[smV s, vi n] W fun e w' => ∃ s2 : Sm, e = .returned (smV s2) ∧ s2.sd = wetS s.sd n ∧ SmOk s2 w' ∧ newer W w') := Lib.hid (fun n W hn hW => wetterR_any s n W (hok.next hW) hs (by omega) (by omega))
  have HB : Hid (∀ (n : Nat) (s2 : Sm) (W : World), s2.sd = wetS s.sd n → SmOk s2 W → newer w W → Calls Try.prog 33 #[smV s2, .slice A us.length c, vi f] W fun e w' => e = .returned (.bool (bw n)) ∧ newer W w') := Lib.hid (fun n s2 W h1 h2 hW => by
    have hc : s2.cs.length = s.cs.length := by rw [← sd_len, ← sd_len, h1]; simp [wetS]
    have hK : s2.sd.K = s.sd.K := by rw [h1]; rfl
    have hn : s2.sd.n = s.sd.n := by rw [h1, wet_n]
    have h := bears_any s2 us A c (allR s.sd.n s.cs.length s.sd.K) f W h2 (by rw [h1]; exact wet_ok (by omega) hs) ((hr.below hW).more hW.size) (fun x hx => (hsi x hx).next hW) he (fun u hu => by rw [hn, hc, hK]; exact (all_mem (hd_ok hs false).K0).1 hu) hlen
    rw [h1] at h
    rw [hbw]
    exact h)
  have hb0 : bw 0 = true := by
    rw [hbw]
    show bearsB (lowestK (refLo (wetS s.sd 0)) (allR s.sd.n s.cs.length s.sd.K) (-1)) f = true
    rw [wet_zero hs]
    exact hd
  have HE : Hid (∀ m, m ≤ 100000 → bw m = true → (m < 100000 → bw (m + 1) = false) → m = marginS s.sd f) := Lib.hid (fun m h1 h2 h3 => by
    rw [hbw] at h2 h3
    rw [← sd_len] at h2 h3
    exact search_margin hs f0 f1 h1 h2 h3)
  clear hok hs hr hsi he hlen f0 f1 hd hbw
  go_enter Try.func34, Try.ntmps34
  go_wp2_with fail
  go_loopw [7, 8] (fun s7 s8 wr => ∃ a b : Nat, a ≤ b ∧ b ≤ 100000 ∧ s7 = vi a ∧ s8 = vi b ∧ bw a = true ∧ (b < 100000 → bw (b + 1) = false) ∧ newer w wr ∧ Whole wr w.heap.size 24 (smC s)) (fun s7 s8 _ => (intOf s8).toNat - (intOf s7).toNat)
  case atStart => exact ⟨0, 100000, by omega, Nat.le_refl _, rfl, rfl, hb0, fun h => by omega, H0.out.1, H0.out.2⟩
  case round =>
    obtain ⟨a, b, hab, hb, rfl, rfl, q1, q2, q3, q4⟩ := hrel
    clear x0 x1 H0 hb0
    have HQ := Lib.hid (And.intro q1 (And.intro q2 (And.intro q3 q4)))
    have x0 := q4.at 0 (v := .slice s.a s.cs.length s.c) rfl
    have x1 := q4.at 1 (v := vi s.least) rfl
    clear q1 q2 q3 q4
    by_cases hlt : a < b
    · obtain ⟨n, hn⟩ : ∃ n : Nat, n = (a + b + 1) / 2 := ⟨_, rfl⟩
      have hnb : a < n ∧ n ≤ b := by omega
      have hni : ((a : Int) + b + 1) / 2 = n := by omega
      clear hn
      go_wp2_with fail
      refine (HW.out n _ (by omega) HQ.out.2.2.1).mono ?_
      rintro e w2 ⟨s2, rfl, hd, hs2, hb2⟩
      have H2 := Lib.hid (And.intro (newer_trans HQ.out.2.2.1 hb2) (HQ.out.2.2.2.below hb2 HQ.out.2.2.2.lt))
      have HBB := Lib.hid (HB.out n s2 w2 hd hs2 H2.out.1)
      clear x0 x1 hd hs2 hb2
      cases hv : bw n with
      | true =>
        rw [hv] at HBB
        go_wp2_with fail
        refine (HBB.out).mono ?_
        rintro e w3 ⟨rfl, hb3⟩
        have H3 := Lib.hid (And.intro (newer_trans H2.out.1 hb3) (H2.out.2.below hb3 H2.out.2.lt))
        go_wp2_with fail
        refine ⟨⟨n, b, by omega, hb, rfl, rfl, hv, HQ.out.2.1, H3.out.1, H3.out.2⟩, ?_⟩
        simp [intOf]
        omega
      | false =>
        rw [hv] at HBB
        go_wp2_with fail
        refine (HBB.out).mono ?_
        rintro e w3 ⟨rfl, hb3⟩
        have H3 := Lib.hid (And.intro (newer_trans H2.out.1 hb3) (H2.out.2.below hb3 H2.out.2.lt))
        go_wp2_with fail
        refine ⟨⟨a, n - 1, by omega, by omega, rfl, by rw [show (n : Int) - 1 = ((n - 1 : Nat) : Int) by omega], HQ.out.1, fun _ => by rw [show n - 1 + 1 = n by omega]; exact hv, H3.out.1, H3.out.2⟩, ?_⟩
        simp [intOf]
        omega
    · obtain rfl : a = b := by omega
      have h := HE.out a hb HQ.out.1 HQ.out.2.1
      have HZ := Lib.hid (And.intro h HQ.out.2.2.1)
      go_wp2_with fail
      go_ret
      exact ⟨by rw [← HZ.out.1]; rfl, HZ.out.2⟩

end Go.Proofs.Ytkenokpobbichaa
