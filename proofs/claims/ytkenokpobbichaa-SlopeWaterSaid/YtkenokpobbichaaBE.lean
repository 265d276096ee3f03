/- SlopeWater walked: it returns true, and leaves what was there. -/
import Derived.Test.YtkenokpobbichaaBD
import Derived.Test.YtkenokpobbichaaAJ
namespace Go.Proofs.Ytkenokpobbichaa
open Go.RowKit Go.Shelf Go.Deep

theorem few_of {s : Sm} (h : SdOk s.sd) : SmFew s := by
  have h1 := h.cols
  have h2 := h.beds
  rw [sd_len] at h1
  refine ⟨by omega, fun x hx => ?_⟩
  have h3 := h.len x.beds (List.mem_map.2 ⟨x, hx, rfl⟩)
  omega
/-- The program's slope of a slope, and then its Worst. -/
theorem slope_chain (s : Sm) (d : Sd) (w : World) (hok : SmOk s w) (hd : s.sd = d) (hs : SdOk d) : Calls Try.prog 19 #[smV s] w fun e w' => ∃ s2 : Sm, e = .returned (smV s2) ∧ (∀ W, newer w' W → Calls Try.prog 25 #[smV s2] W fun e w3 => ∃ (a : Int) (A : Option Addr) (n c : Nat), e = .returned (.tuple #[.agg #[vi a, .slice A n c], vi (wV d), vi (wE d)]) ∧ newer W w3) ∧ newer w w' := by
  subst hd
  refine (lawSlope s w hok (few_of hs)).mono ?_
  rintro e w' ⟨s2, rfl, h1, h2, h3⟩
  refine ⟨s2, rfl, fun W hW => ?_, h3⟩
  have h4 := worst_num s2 W (h2.next hW) (few_of (by rw [h1]; exact hs)) (by rw [h1]; exact hs)
  rw [h1] at h4
  exact h4
theorem wet_chain (s : Sm) (n : Nat) (d : Sd) (w : World) (hok : SmOk s w) (hs : SdOk s.sd) (hn : n ≤ 100000) (hd : d = wetS s.sd n) : Calls Try.prog 39 #[smV s, vi n] w fun e w' => ∃ s3 : Sm, e = .returned (smV s3) ∧ (∀ W, newer w' W → Calls Try.prog 19 #[smV s3] W fun e w2 => ∃ s2 : Sm, e = .returned (smV s2) ∧ (∀ W2, newer w2 W2 → Calls Try.prog 25 #[smV s2] W2 fun e w3 => ∃ (a : Int) (A : Option Addr) (n c : Nat), e = .returned (.tuple #[.agg #[vi a, .slice A n c], vi (wV d), vi (wE d)]) ∧ newer W2 w3) ∧ newer W w2) ∧ newer w w' := by
  have hdo : SdOk d := by rw [hd]; exact wet_ok (by omega) hs
  have hW := wetterR_any s n w hok hs (by omega) (by omega)
  rw [← hd] at hW
  clear hd
  refine hW.mono ?_
  rintro e w' ⟨s3, rfl, h1, h2, h3⟩
  exact ⟨s3, rfl, fun W hW => slope_chain s3 d W (h2.next hW) h1 hdo, h3⟩
set_option maxRecDepth 100000 in
set_option maxHeartbeats 4000000 in
theorem slopeWater_walk (s : Sm) (a1 a2 : Int) (w : World) (h10 : 0 ≤ a1) (h11 : a1 ≤ 65535) (h20 : 0 ≤ a2) (h21 : a2 ≤ 65535) (hok : SmOk s w) : Calls Try.prog 7 #[smV s, .int .u16 a1, .int .u16 a2] w fun e w' => e = .returned (.bool true) ∧ newer w w' := by
  have hnw := newer_allocH w (.cells (smC s) 24)
  have hxb := Whole.made w 24 (smC s)
  have H1 := Lib.hid (And.intro (hnw) (hxb))
  clear hnw hxb
  have HOK := Lib.hid hok
  have HRD := Lib.hid (ready_any s _ (hok.next H1.out.1))
  obtain ⟨n1, rfl⟩ : ∃ n : Nat, a1 = n := ⟨a1.toNat, by omega⟩
  obtain ⟨n2, rfl⟩ : ∃ n : Nat, a2 = n := ⟨a2.toNat, by omega⟩
  clear hok
  have x0 := H1.out.2.at 0 (v := .slice s.a s.cs.length s.c) rfl
  have x1 := H1.out.2.at 1 (v := vi s.least) rfl
  cases hr : readyB s.sd with
  | false =>
    rw [hr] at HRD
    clear hr
    go_enter Try.func7, Try.ntmps7
    go_wp2_with fail
    refine (HRD.out).mono ?_
    rintro e w2 ⟨rfl, hb⟩
    have H3 := Lib.hid (And.intro ((newer_trans H1.out.1 hb)) ((H1.out.2.below hb H1.out.2.lt)))
    clear hb HRD H1 x0 x1
    go_wp2_with fail
    refine (wakes_any _).mono ?_
    rintro e w4 ⟨rfl, hb⟩
    have H5 := Lib.hid (And.intro ((newer_trans H3.out.1 hb)) ((H3.out.2.below hb H3.out.2.lt)))
    clear hb H3
    go_wp2_with fail
    go_ret
    exact ⟨rfl, H5.out.1⟩
  | true =>
    rw [hr] at HRD
    obtain ⟨hs, few, hle⟩ := ready_ok hr
    clear hr hle
    obtain ⟨f, hf⟩ : ∃ f : Nat, f = n1 % 10001 := ⟨_, rfl⟩
    have hff : (n1 : Int) % 10001 = f := by omega
    have hf1 : f ≤ 10000 := by omega
    clear hf
    have HSL : Hid (∀ W, newer w W → Calls Try.prog 19 #[smV s] W fun e w' => ∃ s2 : Sm, e = .returned (smV s2) ∧ (∀ W2, newer w' W2 → Calls Try.prog 25 #[smV s2] W2 fun e w3 => ∃ (a : Int) (A : Option Addr) (n c : Nat), e = .returned (.tuple #[.agg #[vi a, .slice A n c], vi (wV s.sd), vi (wE s.sd)]) ∧ newer W2 w3) ∧ newer W w') := Lib.hid (fun W hW => slope_chain s _ W (HOK.out.next hW) rfl hs)
    have HWT := Lib.hid (fun (n : Nat) (hn : n ≤ 100000) W (hW : newer w W) => wet_chain s n _ W (HOK.out.next hW) hs hn rfl)
    obtain ⟨m, q, hm, hcase⟩ := margin_says hs (f := f) (by omega) (by omega)
    have HMG : Hid (∀ W, newer w W → Calls Try.prog 19 #[smV s] W fun e w' => ∃ s2 : Sm, e = .returned (smV s2) ∧ (∀ W2, newer w' W2 → Calls Try.prog 31 #[smV s2, vi f] W2 fun e w3 => e = .returned (.tuple #[vi m, vi q]) ∧ newer W2 w3) ∧ newer W w') := Lib.hid (fun W hW => by
      refine (lawSlope s W (HOK.out.next hW) few).mono ?_
      rintro e w' ⟨s2, rfl, h1, h2, h3⟩
      refine ⟨s2, rfl, fun W2 hW2 => ?_, h3⟩
      have h4 := margin_any s2 f W2 (h2.next hW2) (few_sd h1 few)
      rw [h1, hm] at h4
      exact h4)
    have hwl := fun m : Nat => wet_less hs (Nat.zero_le m)
    rw [show ((0 : Nat) : Int) = 0 from rfl, wet_zero hs] at hwl
    have h0 := wE_is s.sd
    obtain ⟨V, hV⟩ : ∃ V : Nat → Int, V = fun n : Nat => wV (wetS s.sd n) := ⟨_, rfl⟩
    obtain ⟨E, hE⟩ : ∃ E : Nat → Int, E = fun n : Nat => wE (wetS s.sd n) := ⟨_, rfl⟩
    have HWT : Hid (∀ (n : Nat) (hn : n ≤ 100000) W (hW : newer w W), Calls Try.prog 39 #[smV s, vi n] W fun e w' => ∃ s3 : Sm, e = .returned (smV s3) ∧ (∀ W, newer w' W → Calls Try.prog 19 #[smV s3] W fun e w2 => ∃ s2 : Sm, e = .returned (smV s2) ∧ (∀ W2, newer w2 W2 → Calls Try.prog 25 #[smV s2] W2 fun e w3 => ∃ (a : Int) (A : Option Addr) (q9 c9 : Nat), e = .returned (.tuple #[.agg #[vi a, .slice A q9 c9], vi (V n), vi (E n)]) ∧ newer W2 w3) ∧ newer W w2) ∧ newer W w') := Lib.hid (by rw [hV, hE]; exact HWT.out)
    have hwl2 : ∀ n : Nat, E n = wE s.sd ∧ V n ≤ wV s.sd := by rw [hV, hE]; exact fun n => ⟨(hwl n).1.symm, (hwl n).2⟩
    replace hcase : (q = 10 ∧ wE s.sd = 0 ∧ wV s.sd < f) ∨ (q = 0 ∧ m ≤ 100000 ∧ (E m = 0 → (f : Int) ≤ V m) ∧ (m < 100000 → E (m + 1) = 0 ∧ V (m + 1) < f)) := by rw [hV, hE]; exact hcase
    obtain ⟨e0, he0⟩ : ∃ e, e = wE s.sd := ⟨_, rfl⟩
    obtain ⟨v0, hv0⟩ : ∃ v, v = wV s.sd := ⟨_, rfl⟩
    rw [← he0, ← hv0] at hcase HSL
    rw [← he0, ← hv0] at hwl2
    rw [← he0] at h0
    have HWL := Lib.hid hwl2
    clear hs few hm hwl hV hE he0 hv0 hwl2
    have hn2 := HWL.out n2
    rcases h0 with rfl | rfl
    · rcases hcase with ⟨rfl, h1, h2⟩ | ⟨rfl, hm1, hlo, hup⟩
      · clear h1 HWL
        obtain ⟨he1, hv1⟩ := hn2
        go_enter Try.func7, Try.ntmps7
        go_wp2_with fail
        refine (HRD.out).mono ?_
        rintro e w6 ⟨rfl, hb⟩
        have H7 := Lib.hid (And.intro ((newer_trans H1.out.1 hb)) ((H1.out.2.below hb H1.out.2.lt)))
        clear hb HRD H1 x0 x1
        have x0 := H7.out.2.at 0 (v := .slice s.a s.cs.length s.c) rfl
        have x1 := H7.out.2.at 1 (v := vi s.least) rfl
        go_wp2_with fail
        refine (HSL.out _ H7.out.1).mono ?_
        rintro e w8 ⟨s4, rfl, hc4, hb⟩
        have HC4 := Lib.hid (hc4 _ (newer_refl _))
        clear hc4
        have H9 := Lib.hid (And.intro ((newer_trans H7.out.1 hb)) ((H7.out.2.below hb H7.out.2.lt)))
        clear hb H7 x0 x1
        go_wp2_with fail
        refine (HC4.out).mono ?_
        rintro e w10 ⟨a_, A_, n_, c_, rfl, hb⟩
        have H11 := Lib.hid (And.intro ((newer_trans H9.out.1 hb)) ((H9.out.2.below hb H9.out.2.lt)))
        clear hb HC4 H9
        have e6 := newer_allocH w10 (.cells #[vi a_, .slice A_ n_ c_] 39)
        have H12 := Lib.hid (And.intro ((newer_trans H11.out.1 e6)) ((H11.out.2.below e6 H11.out.2.lt)))
        clear e6 H11
        have x0 := H12.out.2.at 0 (v := .slice s.a s.cs.length s.c) rfl
        have x1 := H12.out.2.at 1 (v := vi s.least) rfl
        go_wp2_with fail
        refine (HWT.out n2 (by omega) _ H12.out.1).mono ?_
        rintro e w13 ⟨s3, rfl, hc3, hb⟩
        have HC3 := Lib.hid (hc3 _ (newer_refl _))
        clear hc3
        have H14 := Lib.hid (And.intro ((newer_trans H12.out.1 hb)) ((H12.out.2.below hb H12.out.2.lt)))
        clear hb H12 x0 x1
        go_wp2_with fail
        refine (HC3.out).mono ?_
        rintro e w15 ⟨s4, rfl, hc4, hb⟩
        have HC4 := Lib.hid (hc4 _ (newer_refl _))
        clear hc4
        have H16 := Lib.hid (And.intro ((newer_trans H14.out.1 hb)) ((H14.out.2.below hb H14.out.2.lt)))
        clear hb HC3 H14
        go_wp2_with fail
        refine (HC4.out).mono ?_
        rintro e w17 ⟨a_, A_, n_, c_, rfl, hb⟩
        have H18 := Lib.hid (And.intro ((newer_trans H16.out.1 hb)) ((H16.out.2.below hb H16.out.2.lt)))
        clear hb HC4 H16
        have e6 := newer_allocH w17 (.cells #[vi a_, .slice A_ n_ c_] 39)
        have H19 := Lib.hid (And.intro ((newer_trans H18.out.1 e6)) ((H18.out.2.below e6 H18.out.2.lt)))
        clear e6 H18
        have x0 := H19.out.2.at 0 (v := .slice s.a s.cs.length s.c) rfl
        have x1 := H19.out.2.at 1 (v := vi s.least) rfl
        go_wp2_with fail
        refine (HMG.out _ H19.out.1).mono ?_
        rintro e w20 ⟨s4, rfl, hc4, hb⟩
        have HC4 := Lib.hid (hc4 _ (newer_refl _))
        clear hc4
        have H21 := Lib.hid (And.intro ((newer_trans H19.out.1 hb)) ((H19.out.2.below hb H19.out.2.lt)))
        clear hb HMG H19 x0 x1
        go_wp2_with fail
        refine (HC4.out).mono ?_
        rintro e w22 ⟨rfl, hb⟩
        have H23 := Lib.hid (And.intro ((newer_trans H21.out.1 hb)) ((H21.out.2.below hb H21.out.2.lt)))
        clear hb HC4 H21
        go_wp2_with fail
        refine (wakes_any _).mono ?_
        rintro e w24 ⟨rfl, hb⟩
        have H25 := Lib.hid (And.intro ((newer_trans H23.out.1 hb)) ((H23.out.2.below hb H23.out.2.lt)))
        clear hb H23
        go_wp2_with fail
        go_ret
        exact ⟨rfl, H25.out.1⟩
      · have hmE := (HWL.out m).1
        have HMV := Lib.hid (And.intro hlo hup)
        clear hlo hup
        obtain ⟨he1, hv1⟩ := hn2
        go_enter Try.func7, Try.ntmps7
        go_wp2_with fail
        refine (HRD.out).mono ?_
        rintro e w26 ⟨rfl, hb⟩
        have H27 := Lib.hid (And.intro ((newer_trans H1.out.1 hb)) ((H1.out.2.below hb H1.out.2.lt)))
        clear hb HRD H1 x0 x1
        have x0 := H27.out.2.at 0 (v := .slice s.a s.cs.length s.c) rfl
        have x1 := H27.out.2.at 1 (v := vi s.least) rfl
        go_wp2_with fail
        refine (HSL.out _ H27.out.1).mono ?_
        rintro e w28 ⟨s4, rfl, hc4, hb⟩
        have HC4 := Lib.hid (hc4 _ (newer_refl _))
        clear hc4
        have H29 := Lib.hid (And.intro ((newer_trans H27.out.1 hb)) ((H27.out.2.below hb H27.out.2.lt)))
        clear hb H27 x0 x1
        go_wp2_with fail
        refine (HC4.out).mono ?_
        rintro e w30 ⟨a_, A_, n_, c_, rfl, hb⟩
        have H31 := Lib.hid (And.intro ((newer_trans H29.out.1 hb)) ((H29.out.2.below hb H29.out.2.lt)))
        clear hb HC4 H29
        have e6 := newer_allocH w30 (.cells #[vi a_, .slice A_ n_ c_] 39)
        have H32 := Lib.hid (And.intro ((newer_trans H31.out.1 e6)) ((H31.out.2.below e6 H31.out.2.lt)))
        clear e6 H31
        have x0 := H32.out.2.at 0 (v := .slice s.a s.cs.length s.c) rfl
        have x1 := H32.out.2.at 1 (v := vi s.least) rfl
        go_wp2_with fail
        refine (HWT.out n2 (by omega) _ H32.out.1).mono ?_
        rintro e w33 ⟨s3, rfl, hc3, hb⟩
        have HC3 := Lib.hid (hc3 _ (newer_refl _))
        clear hc3
        have H34 := Lib.hid (And.intro ((newer_trans H32.out.1 hb)) ((H32.out.2.below hb H32.out.2.lt)))
        clear hb H32 x0 x1
        go_wp2_with fail
        refine (HC3.out).mono ?_
        rintro e w35 ⟨s4, rfl, hc4, hb⟩
        have HC4 := Lib.hid (hc4 _ (newer_refl _))
        clear hc4
        have H36 := Lib.hid (And.intro ((newer_trans H34.out.1 hb)) ((H34.out.2.below hb H34.out.2.lt)))
        clear hb HC3 H34
        go_wp2_with fail
        refine (HC4.out).mono ?_
        rintro e w37 ⟨a_, A_, n_, c_, rfl, hb⟩
        have H38 := Lib.hid (And.intro ((newer_trans H36.out.1 hb)) ((H36.out.2.below hb H36.out.2.lt)))
        clear hb HC4 H36
        have e6 := newer_allocH w37 (.cells #[vi a_, .slice A_ n_ c_] 39)
        have H39 := Lib.hid (And.intro ((newer_trans H38.out.1 e6)) ((H38.out.2.below e6 H38.out.2.lt)))
        clear e6 H38
        have x0 := H39.out.2.at 0 (v := .slice s.a s.cs.length s.c) rfl
        have x1 := H39.out.2.at 1 (v := vi s.least) rfl
        go_wp2_with fail
        refine (HMG.out _ H39.out.1).mono ?_
        rintro e w40 ⟨s4, rfl, hc4, hb⟩
        have HC4 := Lib.hid (hc4 _ (newer_refl _))
        clear hc4
        have H41 := Lib.hid (And.intro ((newer_trans H39.out.1 hb)) ((H39.out.2.below hb H39.out.2.lt)))
        clear hb HMG H39 x0 x1
        go_wp2_with fail
        refine (HC4.out).mono ?_
        rintro e w42 ⟨rfl, hb⟩
        have H43 := Lib.hid (And.intro ((newer_trans H41.out.1 hb)) ((H41.out.2.below hb H41.out.2.lt)))
        clear hb HC4 H41
        have x0 := H43.out.2.at 0 (v := .slice s.a s.cs.length s.c) rfl
        have x1 := H43.out.2.at 1 (v := vi s.least) rfl
        go_wp2_with fail
        refine (HWT.out m (hm1) _ H43.out.1).mono ?_
        rintro e w44 ⟨s3, rfl, hc3, hb⟩
        have HC3 := Lib.hid (hc3 _ (newer_refl _))
        clear hc3
        have H45 := Lib.hid (And.intro ((newer_trans H43.out.1 hb)) ((H43.out.2.below hb H43.out.2.lt)))
        clear hb H43 x0 x1
        go_wp2_with fail
        refine (HC3.out).mono ?_
        rintro e w46 ⟨s4, rfl, hc4, hb⟩
        have HC4 := Lib.hid (hc4 _ (newer_refl _))
        clear hc4
        have H47 := Lib.hid (And.intro ((newer_trans H45.out.1 hb)) ((H45.out.2.below hb H45.out.2.lt)))
        clear hb HC3 H45
        go_wp2_with fail
        refine (HC4.out).mono ?_
        rintro e w48 ⟨a_, A_, n_, c_, rfl, hb⟩
        have H49 := Lib.hid (And.intro ((newer_trans H47.out.1 hb)) ((H47.out.2.below hb H47.out.2.lt)))
        clear hb HC4 H47
        have e6 := newer_allocH w48 (.cells #[vi a_, .slice A_ n_ c_] 39)
        have H50 := Lib.hid (And.intro ((newer_trans H49.out.1 e6)) ((H49.out.2.below e6 H49.out.2.lt)))
        clear e6 H49
        have x0 := H50.out.2.at 0 (v := .slice s.a s.cs.length s.c) rfl
        have x1 := H50.out.2.at 1 (v := vi s.least) rfl
        have hlo := HMV.out.1 hmE
        by_cases hm2 : m = 100000
        · have hm3 : (m : Int) = 100000 := by omega
          clear hm2
          go_wp2_with fail
          refine (wakes_any _).mono ?_
          rintro e w51 ⟨rfl, hb⟩
          have H52 := Lib.hid (And.intro ((newer_trans H50.out.1 hb)) ((H50.out.2.below hb H50.out.2.lt)))
          clear hb H50 x0 x1
          go_wp2_with fail
          go_ret
          exact ⟨rfl, H52.out.1⟩
        · have hm3 : ¬ (m : Int) = 100000 := by omega
          obtain ⟨hup1, hup2⟩ := HMV.out.2 (by omega)
          go_wp2_with fail
          refine (HWT.out (m + 1) (by omega) _ H50.out.1).mono ?_
          rintro e w53 ⟨s3, rfl, hc3, hb⟩
          have HC3 := Lib.hid (hc3 _ (newer_refl _))
          clear hc3
          have H54 := Lib.hid (And.intro ((newer_trans H50.out.1 hb)) ((H50.out.2.below hb H50.out.2.lt)))
          clear hb H50 x0 x1
          go_wp2_with fail
          refine (HC3.out).mono ?_
          rintro e w55 ⟨s4, rfl, hc4, hb⟩
          have HC4 := Lib.hid (hc4 _ (newer_refl _))
          clear hc4
          have H56 := Lib.hid (And.intro ((newer_trans H54.out.1 hb)) ((H54.out.2.below hb H54.out.2.lt)))
          clear hb HC3 H54
          go_wp2_with fail
          refine (HC4.out).mono ?_
          rintro e w57 ⟨a_, A_, n_, c_, rfl, hb⟩
          have H58 := Lib.hid (And.intro ((newer_trans H56.out.1 hb)) ((H56.out.2.below hb H56.out.2.lt)))
          clear hb HC4 H56
          go_wp2_with fail
          refine (wakes_any _).mono ?_
          rintro e w59 ⟨rfl, hb⟩
          have H60 := Lib.hid (And.intro ((newer_trans H58.out.1 hb)) ((H58.out.2.below hb H58.out.2.lt)))
          clear hb H58
          go_wp2_with fail
          go_ret
          exact ⟨rfl, H60.out.1⟩
    · rcases hcase with ⟨rfl, h1, h2⟩ | ⟨rfl, hm1, hlo, hup⟩
      · exact absurd h1 (by decide)
      · have hmE := (HWL.out m).1
        have HMV := Lib.hid (And.intro hlo hup)
        clear hlo hup
        obtain ⟨he1, hv1⟩ := hn2
        go_enter Try.func7, Try.ntmps7
        go_wp2_with fail
        refine (HRD.out).mono ?_
        rintro e w61 ⟨rfl, hb⟩
        have H62 := Lib.hid (And.intro ((newer_trans H1.out.1 hb)) ((H1.out.2.below hb H1.out.2.lt)))
        clear hb HRD H1 x0 x1
        have x0 := H62.out.2.at 0 (v := .slice s.a s.cs.length s.c) rfl
        have x1 := H62.out.2.at 1 (v := vi s.least) rfl
        go_wp2_with fail
        refine (HSL.out _ H62.out.1).mono ?_
        rintro e w63 ⟨s4, rfl, hc4, hb⟩
        have HC4 := Lib.hid (hc4 _ (newer_refl _))
        clear hc4
        have H64 := Lib.hid (And.intro ((newer_trans H62.out.1 hb)) ((H62.out.2.below hb H62.out.2.lt)))
        clear hb H62 x0 x1
        go_wp2_with fail
        refine (HC4.out).mono ?_
        rintro e w65 ⟨a_, A_, n_, c_, rfl, hb⟩
        have H66 := Lib.hid (And.intro ((newer_trans H64.out.1 hb)) ((H64.out.2.below hb H64.out.2.lt)))
        clear hb HC4 H64
        have e6 := newer_allocH w65 (.cells #[vi a_, .slice A_ n_ c_] 39)
        have H67 := Lib.hid (And.intro ((newer_trans H66.out.1 e6)) ((H66.out.2.below e6 H66.out.2.lt)))
        clear e6 H66
        have x0 := H67.out.2.at 0 (v := .slice s.a s.cs.length s.c) rfl
        have x1 := H67.out.2.at 1 (v := vi s.least) rfl
        go_wp2_with fail
        refine (HWT.out n2 (by omega) _ H67.out.1).mono ?_
        rintro e w68 ⟨s3, rfl, hc3, hb⟩
        have HC3 := Lib.hid (hc3 _ (newer_refl _))
        clear hc3
        have H69 := Lib.hid (And.intro ((newer_trans H67.out.1 hb)) ((H67.out.2.below hb H67.out.2.lt)))
        clear hb H67 x0 x1
        go_wp2_with fail
        refine (HC3.out).mono ?_
        rintro e w70 ⟨s4, rfl, hc4, hb⟩
        have HC4 := Lib.hid (hc4 _ (newer_refl _))
        clear hc4
        have H71 := Lib.hid (And.intro ((newer_trans H69.out.1 hb)) ((H69.out.2.below hb H69.out.2.lt)))
        clear hb HC3 H69
        go_wp2_with fail
        refine (HC4.out).mono ?_
        rintro e w72 ⟨a_, A_, n_, c_, rfl, hb⟩
        have H73 := Lib.hid (And.intro ((newer_trans H71.out.1 hb)) ((H71.out.2.below hb H71.out.2.lt)))
        clear hb HC4 H71
        have e6 := newer_allocH w72 (.cells #[vi a_, .slice A_ n_ c_] 39)
        have H74 := Lib.hid (And.intro ((newer_trans H73.out.1 e6)) ((H73.out.2.below e6 H73.out.2.lt)))
        clear e6 H73
        have x0 := H74.out.2.at 0 (v := .slice s.a s.cs.length s.c) rfl
        have x1 := H74.out.2.at 1 (v := vi s.least) rfl
        go_wp2_with fail
        refine (HMG.out _ H74.out.1).mono ?_
        rintro e w75 ⟨s4, rfl, hc4, hb⟩
        have HC4 := Lib.hid (hc4 _ (newer_refl _))
        clear hc4
        have H76 := Lib.hid (And.intro ((newer_trans H74.out.1 hb)) ((H74.out.2.below hb H74.out.2.lt)))
        clear hb HMG H74 x0 x1
        go_wp2_with fail
        refine (HC4.out).mono ?_
        rintro e w77 ⟨rfl, hb⟩
        have H78 := Lib.hid (And.intro ((newer_trans H76.out.1 hb)) ((H76.out.2.below hb H76.out.2.lt)))
        clear hb HC4 H76
        have x0 := H78.out.2.at 0 (v := .slice s.a s.cs.length s.c) rfl
        have x1 := H78.out.2.at 1 (v := vi s.least) rfl
        go_wp2_with fail
        refine (HWT.out m (hm1) _ H78.out.1).mono ?_
        rintro e w79 ⟨s3, rfl, hc3, hb⟩
        have HC3 := Lib.hid (hc3 _ (newer_refl _))
        clear hc3
        have H80 := Lib.hid (And.intro ((newer_trans H78.out.1 hb)) ((H78.out.2.below hb H78.out.2.lt)))
        clear hb H78 x0 x1
        go_wp2_with fail
        refine (HC3.out).mono ?_
        rintro e w81 ⟨s4, rfl, hc4, hb⟩
        have HC4 := Lib.hid (hc4 _ (newer_refl _))
        clear hc4
        have H82 := Lib.hid (And.intro ((newer_trans H80.out.1 hb)) ((H80.out.2.below hb H80.out.2.lt)))
        clear hb HC3 H80
        go_wp2_with fail
        refine (HC4.out).mono ?_
        rintro e w83 ⟨a_, A_, n_, c_, rfl, hb⟩
        have H84 := Lib.hid (And.intro ((newer_trans H82.out.1 hb)) ((H82.out.2.below hb H82.out.2.lt)))
        clear hb HC4 H82
        have e6 := newer_allocH w83 (.cells #[vi a_, .slice A_ n_ c_] 39)
        have H85 := Lib.hid (And.intro ((newer_trans H84.out.1 e6)) ((H84.out.2.below e6 H84.out.2.lt)))
        clear e6 H84
        have x0 := H85.out.2.at 0 (v := .slice s.a s.cs.length s.c) rfl
        have x1 := H85.out.2.at 1 (v := vi s.least) rfl
        by_cases hm2 : m = 100000
        · have hm3 : (m : Int) = 100000 := by omega
          clear hm2
          go_wp2_with fail
          refine (wakes_any _).mono ?_
          rintro e w86 ⟨rfl, hb⟩
          have H87 := Lib.hid (And.intro ((newer_trans H85.out.1 hb)) ((H85.out.2.below hb H85.out.2.lt)))
          clear hb H85 x0 x1
          go_wp2_with fail
          go_ret
          exact ⟨rfl, H87.out.1⟩
        · have hm3 : ¬ (m : Int) = 100000 := by omega
          obtain ⟨hup1, hup2⟩ := HMV.out.2 (by omega)
          go_wp2_with fail
          refine (HWT.out (m + 1) (by omega) _ H85.out.1).mono ?_
          rintro e w88 ⟨s3, rfl, hc3, hb⟩
          have HC3 := Lib.hid (hc3 _ (newer_refl _))
          clear hc3
          have H89 := Lib.hid (And.intro ((newer_trans H85.out.1 hb)) ((H85.out.2.below hb H85.out.2.lt)))
          clear hb H85 x0 x1
          go_wp2_with fail
          refine (HC3.out).mono ?_
          rintro e w90 ⟨s4, rfl, hc4, hb⟩
          have HC4 := Lib.hid (hc4 _ (newer_refl _))
          clear hc4
          have H91 := Lib.hid (And.intro ((newer_trans H89.out.1 hb)) ((H89.out.2.below hb H89.out.2.lt)))
          clear hb HC3 H89
          go_wp2_with fail
          refine (HC4.out).mono ?_
          rintro e w92 ⟨a_, A_, n_, c_, rfl, hb⟩
          have H93 := Lib.hid (And.intro ((newer_trans H91.out.1 hb)) ((H91.out.2.below hb H91.out.2.lt)))
          clear hb HC4 H91
          go_wp2_with fail
          refine (wakes_any _).mono ?_
          rintro e w94 ⟨rfl, hb⟩
          have H95 := Lib.hid (And.intro ((newer_trans H93.out.1 hb)) ((H93.out.2.below hb H93.out.2.lt)))
          clear hb H93
          go_wp2_with fail
          go_ret
          exact ⟨rfl, H95.out.1⟩

end Go.Proofs.Ytkenokpobbichaa
