/- RadarBlames walked: it returns true, and leaves what was there. -/
import Derived.Test.YtpmafnifgegfbaaBM
import Derived.Test.YtpmafnifgegfbaaBL
import Derived.Test.YtpmafnifgegfbaaBH
import Derived.Test.YtpmafnifgegfbaaBI
namespace Go.Proofs.Ytpmafnifgegfbaa
open Go.RowKit Go.Shelf Go.Deep

theorem blame_not (y : Sm) (w : World) (hok : SmOk y w) (few : SmFew y) (v : Int) (hE : blameE y.s = v) (hL : blameL y.s = []) : Calls Try.prog 49 #[smV y] w fun e w' => ∃ A c, e = .returned (.tuple #[.slice A 0 c, vi v]) ∧ newer w w' := by
  refine (blame_any y w hok few).mono ?_
  rintro e w' ⟨B, d, rfl, _, h3⟩
  exact ⟨B, d, by rw [hE, hL]; rfl, h3⟩
theorem blame_two {s : Sd} (he : errN s = 0) (ho : okS s (freeL s) = false) : blameL s = blameK s s.tools.length ∧ blameE s = if blameK s s.tools.length = [] then 9 else 0 := by
  have hE : blameE s = if blameK s s.tools.length = [] then 9 else 0 := by unfold blameE; rw [if_pos he, if_neg (by rw [ho]; decide)]
  refine ⟨?_, hE⟩
  unfold blameL
  by_cases hk : blameK s s.tools.length = []
  · rw [hE, if_pos hk, if_neg (by decide), hk]
  · rw [hE, if_neg hk, if_pos rfl]
theorem blame_yes (y : Sm) (w : World) (hok : SmOk y w) (few : SmFew y) (E : Int) (hE : blameE y.s = E) (hL : blameL y.s = blameK y.s y.s.tools.length) : Calls Try.prog 49 #[smV y] w fun e w' => ∃ A c, e = .returned (.tuple #[.slice A (blameK y.s y.s.tools.length).length c, vi E]) ∧ Row intL 1 w' w'.heap.size A (blameK y.s y.s.tools.length) ∧ newer w w' := by
  refine (blame_any y w hok few).mono ?_
  rintro e w' ⟨B, d, rfl, h2, h3⟩
  rw [hL] at h2
  rw [← map_vi] at h2
  exact ⟨B, d, by rw [hE, hL], row_of_own (enc := intL) (size := 1) (by decide) (fun _ => rfl) h2, h3⟩
/-- Fields of the survey without a tool. -/
theorem fieldsD_any (y : Sm) (i : Nat) (A B2 : Option Addr) (ca d2 : Nat) (w : World) (hs : SdOk y.s) (h3 : y.s.spots.length ≤ 3) (hi : i < y.s.tools.length) (hok : SmOk ⟨dropS y.s i, y.sa, y.sc, A, ca, B2, d2⟩ w) : Calls Try.prog 33 #[.agg #[.slice y.sa y.s.spots.length y.sc, vi y.s.strain, .slice A (y.s.tools.length - 1) ca, vi y.s.day, .slice B2 (y.s.tools.length - 1) d2], .slice none 0 0] w fun e w' => (∃ (xs : List Fl) (A : Option Addr) (c : Nat), e = .returned (.slice A xs.length c) ∧ xs.map (·.f) = allR (dropS y.s i)) ∧ newer w w' := by
  have hr : i < y.s.reads.length := by rw [hs.reads]; exact hi
  have h := fields_any ⟨dropS y.s i, y.sa, y.sc, A, ca, B2, d2⟩ (dropS_ok hs hi) h3 y.s.spots.length [] none 0 w hok (fun h => absurd rfl h) (Nat.zero_add _) (fun m hm => by simp at hm)
  have e1 : smV ⟨dropS y.s i, y.sa, y.sc, A, ca, B2, d2⟩ = .agg #[.slice y.sa y.s.spots.length y.sc, vi y.s.strain, .slice A (y.s.tools.length - 1) ca, vi y.s.day, .slice B2 (y.s.tools.length - 1) d2] := by
    show (Value.agg #[_, _, Value.slice _ (dropS y.s i).tools.length _, _, Value.slice _ (dropS y.s i).reads.length _]) = _
    rw [dropS_len hi, dropS_rlen hr, hs.reads]
    rfl
  rw [e1] at h
  refine h.mono ?_
  rintro e w' ⟨⟨xs, A, c, rfl, -, -, h1⟩, hb⟩
  exact ⟨⟨xs, A, c, rfl, h1⟩, hb⟩
set_option maxRecDepth 100000 in
set_option maxHeartbeats 8000000 in
theorem radarBlames_walk (y : Sm) (w : World) (hok : SmOk y w) (htc : y.s.tools.length ≤ y.tc) (hrc : y.s.reads.length ≤ y.rc) : Calls Try.prog 12 #[smV y] w fun e w' => e = .returned (.bool true) ∧ newer w w' := by
  have hnw := newer_allocH w (.cells (smC y) 26)
  have hxb := Whole.made w 26 (smC y)
  have HFE := Lib.hid (few_any y _ (hok.next hnw))
  have HN0 := Lib.hid (And.intro hnw hxb)
  have HOK := Lib.hid hok
  have HCP := Lib.hid (And.intro htc hrc)
  have x0 := hxb.at 0 (v := .slice y.sa y.s.spots.length y.sc) rfl
  have x1 := hxb.at 1 (v := vi y.s.strain) rfl
  have x2 := hxb.at 2 (v := .slice y.ta y.s.tools.length y.tc) rfl
  have x3 := hxb.at 3 (v := vi y.s.day) rfl
  have x4 := hxb.at 4 (v := .slice y.ra y.s.reads.length y.rc) rfl
  clear hok hnw hxb htc hrc
  go_enter Try.func12, Try.ntmps12
  go_wp2_with fail
  refine (HFE.out).mono ?_
  rintro e w1 ⟨b, rfl, hfb, hb⟩
  have HN1 := Lib.hid (And.intro (newer_trans HN0.out.1 hb) (HN0.out.2.below hb HN0.out.2.lt))
  clear hb x0 x1 x2 x3 x4 HFE HN0
  have x0 := HN1.out.2.at 0 (v := .slice y.sa y.s.spots.length y.sc) rfl
  have x1 := HN1.out.2.at 1 (v := vi y.s.strain) rfl
  have x2 := HN1.out.2.at 2 (v := .slice y.ta y.s.tools.length y.tc) rfl
  have x3 := HN1.out.2.at 3 (v := vi y.s.day) rfl
  have x4 := HN1.out.2.at 4 (v := .slice y.ra y.s.reads.length y.rc) rfl
  cases b with
  | false =>
    clear hfb x0 x1 x2 x3 x4
    go_wp2_with fail
    refine (awake_any _).mono ?_
    rintro e wk ⟨rfl, hb⟩
    have HK := Lib.hid (newer_trans (HN1.out.1) hb)
    clear hb
    go_wp2_with fail
    go_ret
    exact ⟨rfl, HK.out⟩
  | true =>
    obtain ⟨hth, h3⟩ := hfb rfl
    have HFW := Lib.hid (thin_few hth).1
    clear hth hfb
    by_cases he : errN y.s = 0
    case neg =>
      have HE : Hid (blameE y.s = errN y.s ∧ blameL y.s = []) := Lib.hid (by
        have h1 : blameE y.s = errN y.s := by unfold blameE; rw [if_neg he]
        exact ⟨h1, by unfold blameL; rw [if_neg (by rw [h1]; exact he)]⟩)
      clear h3
      go_wp2_with fail
      refine (survey_any y _ (HOK.out.next HN1.out.1) HFW.out).mono ?_
      rintro e w2 ⟨sa1, sc1, ta1, tc1, ra1, rc1, rfl, ho1, hb⟩
      have HN2 := Lib.hid (And.intro (newer_trans HN1.out.1 hb) (HN1.out.2.below hb HN1.out.2.lt))
      have HZ1 := Lib.hid ho1.ok
      clear ho1
      clear hb x0 x1 x2 x3 x4
      have x0 := HN2.out.2.at 0 (v := .slice y.sa y.s.spots.length y.sc) rfl
      have x1 := HN2.out.2.at 1 (v := vi y.s.strain) rfl
      have x2 := HN2.out.2.at 2 (v := .slice y.ta y.s.tools.length y.tc) rfl
      have x3 := HN2.out.2.at 3 (v := vi y.s.day) rfl
      have x4 := HN2.out.2.at 4 (v := .slice y.ra y.s.reads.length y.rc) rfl
      go_wp2_with fail
      refine (blame_not ⟨y.s, sa1, sc1, ta1, tc1, ra1, rc1⟩ _ HZ1.out (few_s (y := y) rfl HFW.out) (errN y.s) HE.out.1 HE.out.2).mono ?_
      rintro e w3 ⟨A, c, rfl, hb⟩
      have HN3 := Lib.hid (And.intro (newer_trans HN2.out.1 hb) (HN2.out.2.below hb HN2.out.2.lt))
      clear hb x0 x1 x2 x3 x4
      have x0 := HN3.out.2.at 0 (v := .slice y.sa y.s.spots.length y.sc) rfl
      have x1 := HN3.out.2.at 1 (v := vi y.s.strain) rfl
      have x2 := HN3.out.2.at 2 (v := .slice y.ta y.s.tools.length y.tc) rfl
      have x3 := HN3.out.2.at 3 (v := vi y.s.day) rfl
      have x4 := HN3.out.2.at 4 (v := .slice y.ra y.s.reads.length y.rc) rfl
      go_wp2_with fail
      refine (refFault_any y _ (HOK.out.next HN3.out.1) HFW.out).mono ?_
      rintro e w4 ⟨rfl, hb⟩
      have HN4 := Lib.hid (And.intro (newer_trans HN3.out.1 hb) (HN3.out.2.below hb HN3.out.2.lt))
      clear hb x0 x1 x2 x3 x4
      have x0 := HN4.out.2.at 0 (v := .slice y.sa y.s.spots.length y.sc) rfl
      have x1 := HN4.out.2.at 1 (v := vi y.s.strain) rfl
      have x2 := HN4.out.2.at 2 (v := .slice y.ta y.s.tools.length y.tc) rfl
      have x3 := HN4.out.2.at 3 (v := vi y.s.day) rfl
      have x4 := HN4.out.2.at 4 (v := .slice y.ra y.s.reads.length y.rc) rfl
      clear x0 x1 x2 x3 x4
      go_wp2_with fail
      refine (awake_any _).mono ?_
      rintro e wk ⟨rfl, hb⟩
      have HK := Lib.hid (newer_trans (HN4.out.1) hb)
      clear hb
      go_wp2_with fail
      go_ret
      exact ⟨rfl, HK.out⟩
    case pos =>
      have h3s := (h3 he).1
      have HT3 := Lib.hid (h3 he)
      have hsd := err_iff.1 he
      have HSD := Lib.hid hsd
      have hf0 := fields_any y hsd h3s y.s.spots.length [] none 0
      have HFL : Hid (∀ W, newer w W → Calls Try.prog 33 #[smV y, .slice none 0 0] W fun e w' => (∃ (xs : List Fl) (A : Option Addr) (c : Nat), e = .returned (.slice A xs.length c) ∧ Row flL 1 w' w'.heap.size A xs ∧ FlIn W.heap.size xs w' ∧ xs.map (·.f) = allR y.s) ∧ newer W w') := Lib.hid (fun W hW => hf0 W (HOK.out.next hW) (fun h => absurd rfl h) (by simp) (fun m hm => by simp at hm))
      have HAN := Lib.hid (all_ne hsd)
      clear hf0 h3s h3
      cases ho : okS y.s (freeL y.s) with
      | true =>
        have HE : Hid (blameE y.s = 7 ∧ blameL y.s = []) := Lib.hid (by
          have h1 : blameE y.s = 7 := by unfold blameE; rw [if_pos he, if_pos ho]
          exact ⟨h1, by unfold blameL; rw [if_neg (by rw [h1]; decide)]⟩)
        have HO := Lib.hid ho
        clear hsd ho
        go_wp2_with fail
        refine (survey_any y _ (HOK.out.next HN1.out.1) HFW.out).mono ?_
        rintro e w2 ⟨sa1, sc1, ta1, tc1, ra1, rc1, rfl, ho1, hb⟩
        have HN2 := Lib.hid (And.intro (newer_trans HN1.out.1 hb) (HN1.out.2.below hb HN1.out.2.lt))
        have HZ1 := Lib.hid ho1.ok
        clear ho1
        clear hb x0 x1 x2 x3 x4
        have x0 := HN2.out.2.at 0 (v := .slice y.sa y.s.spots.length y.sc) rfl
        have x1 := HN2.out.2.at 1 (v := vi y.s.strain) rfl
        have x2 := HN2.out.2.at 2 (v := .slice y.ta y.s.tools.length y.tc) rfl
        have x3 := HN2.out.2.at 3 (v := vi y.s.day) rfl
        have x4 := HN2.out.2.at 4 (v := .slice y.ra y.s.reads.length y.rc) rfl
        go_wp2_with fail
        refine (blame_not ⟨y.s, sa1, sc1, ta1, tc1, ra1, rc1⟩ _ HZ1.out (few_s (y := y) rfl HFW.out) 7 HE.out.1 HE.out.2).mono ?_
        rintro e w3 ⟨A, c, rfl, hb⟩
        have HN3 := Lib.hid (And.intro (newer_trans HN2.out.1 hb) (HN2.out.2.below hb HN2.out.2.lt))
        clear hb x0 x1 x2 x3 x4
        have x0 := HN3.out.2.at 0 (v := .slice y.sa y.s.spots.length y.sc) rfl
        have x1 := HN3.out.2.at 1 (v := vi y.s.strain) rfl
        have x2 := HN3.out.2.at 2 (v := .slice y.ta y.s.tools.length y.tc) rfl
        have x3 := HN3.out.2.at 3 (v := vi y.s.day) rfl
        have x4 := HN3.out.2.at 4 (v := .slice y.ra y.s.reads.length y.rc) rfl
        go_wp2_with fail
        refine (refFault_any y _ (HOK.out.next HN3.out.1) HFW.out).mono ?_
        rintro e w4 ⟨rfl, hb⟩
        have HN4 := Lib.hid (And.intro (newer_trans HN3.out.1 hb) (HN3.out.2.below hb HN3.out.2.lt))
        clear hb x0 x1 x2 x3 x4
        have x0 := HN4.out.2.at 0 (v := .slice y.sa y.s.spots.length y.sc) rfl
        have x1 := HN4.out.2.at 1 (v := vi y.s.strain) rfl
        have x2 := HN4.out.2.at 2 (v := .slice y.ta y.s.tools.length y.tc) rfl
        have x3 := HN4.out.2.at 3 (v := vi y.s.day) rfl
        have x4 := HN4.out.2.at 4 (v := .slice y.ra y.s.reads.length y.rc) rfl
        go_wp2_with fail
        refine (HFL.out _ HN4.out.1).mono ?_
        rintro e w5 ⟨⟨xs, A, c, rfl, -, -, hmap⟩, hb⟩
        have hpos : (0 : Int) < xs.length := by
          have h1 : 0 < xs.length := List.length_pos_iff.2 (fun e => HAN.out.2 HO.out (by rw [← hmap, e]; rfl))
          omega
        have HN5 := Lib.hid (newer_trans HN4.out.1 hb)
        clear hb x0 x1 x2 x3 x4 hmap
        go_wp2_with fail
        refine (awake_any _).mono ?_
        rintro e wk ⟨rfl, hb⟩
        have HK := Lib.hid (newer_trans (HN5.out) hb)
        clear hb
        go_wp2_with fail
        go_ret
        exact ⟨rfl, HK.out⟩
      | false =>
        have HE := Lib.hid (blame_two he ho)
        have HA : Hid (allR y.s = []) := Lib.hid (by
          apply Decidable.byContradiction
          intro hne
          have h := HAN.out.1 hne
          rw [ho] at h
          cases h)
        obtain ⟨E, hEE⟩ : ∃ q, q = blameE y.s := ⟨_, rfl⟩
        have HEE := Lib.hid hEE
        clear hsd ho hEE
        go_wp2_with fail
        refine (survey_any y _ (HOK.out.next HN1.out.1) HFW.out).mono ?_
        rintro e w2 ⟨sa1, sc1, ta1, tc1, ra1, rc1, rfl, ho1, hb⟩
        have HN2 := Lib.hid (And.intro (newer_trans HN1.out.1 hb) (HN1.out.2.below hb HN1.out.2.lt))
        have HZ1 := Lib.hid ho1.ok
        clear ho1
        clear hb x0 x1 x2 x3 x4
        have x0 := HN2.out.2.at 0 (v := .slice y.sa y.s.spots.length y.sc) rfl
        have x1 := HN2.out.2.at 1 (v := vi y.s.strain) rfl
        have x2 := HN2.out.2.at 2 (v := .slice y.ta y.s.tools.length y.tc) rfl
        have x3 := HN2.out.2.at 3 (v := vi y.s.day) rfl
        have x4 := HN2.out.2.at 4 (v := .slice y.ra y.s.reads.length y.rc) rfl
        go_wp2_with fail
        refine (blame_yes ⟨y.s, sa1, sc1, ta1, tc1, ra1, rc1⟩ _ HZ1.out (few_s (y := y) rfl HFW.out) E HEE.out.symm HE.out.1).mono ?_
        rintro e w3 ⟨KB, kd, rfl, hkr, hb⟩
        have HN3 := Lib.hid (And.intro (newer_trans HN2.out.1 hb) (HN2.out.2.below hb HN2.out.2.lt))
        have HR3 := Lib.hid hkr
        clear hkr
        clear hb x0 x1 x2 x3 x4
        have x0 := HN3.out.2.at 0 (v := .slice y.sa y.s.spots.length y.sc) rfl
        have x1 := HN3.out.2.at 1 (v := vi y.s.strain) rfl
        have x2 := HN3.out.2.at 2 (v := .slice y.ta y.s.tools.length y.tc) rfl
        have x3 := HN3.out.2.at 3 (v := vi y.s.day) rfl
        have x4 := HN3.out.2.at 4 (v := .slice y.ra y.s.reads.length y.rc) rfl
        go_wp2_with fail
        refine (refFault_any y _ (HOK.out.next HN3.out.1) HFW.out).mono ?_
        rintro e w4 ⟨rfl, hb⟩
        have HN4 := Lib.hid (And.intro (newer_trans HN3.out.1 hb) (HN3.out.2.below hb HN3.out.2.lt))
        have HR4 := Lib.hid ((HR3.out.below hb).more hb.size)
        clear hb x0 x1 x2 x3 x4
        have x0 := HN4.out.2.at 0 (v := .slice y.sa y.s.spots.length y.sc) rfl
        have x1 := HN4.out.2.at 1 (v := vi y.s.strain) rfl
        have x2 := HN4.out.2.at 2 (v := .slice y.ta y.s.tools.length y.tc) rfl
        have x3 := HN4.out.2.at 3 (v := vi y.s.day) rfl
        have x4 := HN4.out.2.at 4 (v := .slice y.ra y.s.reads.length y.rc) rfl
        go_wp2_with fail
        refine (HFL.out _ HN4.out.1).mono ?_
        rintro e w5 ⟨⟨xs, A, c, rfl, -, -, hmap⟩, hb⟩
        rw [HA.out, List.map_eq_nil_iff] at hmap
        subst hmap
        have HN5 := Lib.hid (And.intro (newer_trans HN4.out.1 hb) (HN4.out.2.below hb HN4.out.2.lt))
        have HR5 := Lib.hid ((HR4.out.below hb).more hb.size)
        clear hb x0 x1 x2 x3 x4
        obtain ⟨i0, hi0, hz0, hz1, hz2⟩ := info_parts info_int
        have HI := Lib.hid (And.intro hi0 (And.intro hz0 (And.intro hz1 hz2)))
        clear hi0 hz0 hz1 hz2
        have HT8 := Lib.hid HSD.out.few
        go_wp2_with fail
        try go_frame
        go_loopw [6, 7] (fun s6 s7 wr => ∃ (i k : Nat) (B : Option Addr) (d : Nat), i ≤ y.s.tools.length ∧ s7 = vi i ∧ k = (blameK y.s i).length ∧ s6 = .slice B k d ∧ wr.ownsRow w5.heap.size 3 1 (.slice B k d) k ((blameK y.s i).flatMap intL) ∧ newer w5 wr) (fun _ s7 _ => y.s.tools.length - (intOf s7).toNat)
        case atStart => exact ⟨0, 0, none, 0, Nat.zero_le _, rfl, rfl, rfl, ⟨rfl, .inl ⟨rfl, rfl⟩⟩, newer_refl _⟩
        case round =>
          obtain ⟨i, k, B, d, hi, rfl, hk, rfl, hown, hnx⟩ := hrel
          have HJ := Lib.hid (And.intro hown hnx)
          have HX := Lib.hid (And.intro (newer_trans HN5.out.1 hnx) (HN5.out.2.below hnx HN5.out.2.lt))
          have HK := Lib.hid (And.intro hk (show k ≤ i by rw [hk]; exact blameK_len _ _))
          have ht8 := HT8.out
          clear hk hown hnx
          by_cases hlt : i < y.s.tools.length
          · have hin : (i : Int) < y.s.tools.length := by omega
            have HIN := Lib.hid hlt
            have x0 := HX.out.2.at 0 (v := .slice y.sa y.s.spots.length y.sc) rfl
            have x1 := HX.out.2.at 1 (v := vi y.s.strain) rfl
            have x2 := HX.out.2.at 2 (v := .slice y.ta y.s.tools.length y.tc) rfl
            have x3 := HX.out.2.at 3 (v := vi y.s.day) rfl
            have x4 := HX.out.2.at 4 (v := .slice y.ra y.s.reads.length y.rc) rfl
            go_wp2_with fail
            refine (withoutR_any y i y.s.tools.length wr (HOK.out.next HX.out.1) HT8.out rfl HSD.out.reads HIN.out HCP.out.1 (by have := HCP.out.2; rw [HSD.out.reads] at this; exact this)).mono ?_
            rintro e w9 ⟨A, ca, B2, d2, rfl, hoz, hb⟩
            have HF9 := Lib.hid (fieldsD_any y i A B2 ca d2 w9 HSD.out HT3.out.1 HIN.out hoz)
            have H9 := Lib.hid hb
            clear hoz hb x0 x1 x2 x3 x4
            go_wp2_with fail
            refine (HF9.out).mono ?_
            rintro e w10 ⟨⟨fs, FA, fc, rfl, hmap⟩, hb⟩
            have HM := Lib.hid hmap
            have H10 := Lib.hid (newer_trans H9.out hb)
            have HAD := Lib.hid (all_ne (dropS_ok HSD.out HIN.out))
            clear hmap hb HF9
            cases ho : okS (dropS y.s i) (freeL (dropS y.s i)) with
            | false =>
              have hfs : fs = [] := by
                apply Decidable.byContradiction
                intro hne
                have h := HAD.out.1 (by rw [← HM.out]; simpa using hne)
                rw [ho] at h
                cases h
              subst hfs
              have HKS : Hid (blameK y.s (i + 1) = blameK y.s i) := Lib.hid (by rw [blameK_succ, if_neg (by rw [ho]; decide), List.append_nil])
              clear ho
              go_wp2_with fail
              go_roundw
              case rel => exact ⟨i + 1, k, B, d, HIN.out, by have := HT8.out; have := HIN.out; go_num, by rw [HKS.out]; exact HK.out.1, rfl, by rw [HKS.out]; exact own_below HJ.out.1 H10.out, newer_trans HJ.out.2 H10.out⟩
              case measure => simp [intOf]; have := HT8.out; have := HIN.out; omega
            | true =>
              have hpos : (0 : Int) < fs.length := by
                have h1 : 0 < fs.length := List.length_pos_iff.2 (fun e => HAD.out.2 ho (by rw [← HM.out, e]; rfl))
                omega
              have HKS : Hid (blameK y.s (i + 1) = blameK y.s i ++ [(i : Int)]) := Lib.hid (by rw [blameK_succ, if_pos ho])
              have hna := newer_allocH w10 (.cells #[vi i] 3)
              have HAP : Hid ((w10.alloc (.cells #[vi i] 3)).ownsRow w5.heap.size 3 1 (.slice B k d) k ((blameK y.s i).flatMap intL) ∧ Row intL 1 (w10.alloc (.cells #[vi i] 3)) (w10.alloc (.cells #[vi i] 3)).heap.size (some ⟨w10.heap.size, 0, none⟩) [(i : Int)] ∧ newer w5 (w10.alloc (.cells #[vi i] 3))) := Lib.hid (by
                have h1 := newer_trans H10.out hna
                exact ⟨own_below HJ.out.1 h1, row_of_whole (enc := intL) (s := 1) (fun _ => rfl) (Whole.made w10 3 #[vi i]) rfl, newer_trans HJ.out.2 h1⟩)
              clear ho hna
              go_wp2_with (at_builtin; go_loud ((refine wpList_plain rfl fun _ hK => wp_append_all (enc := intL) (size := 1) w5.heap.size (.tmp 60) (.tmp 62) 24 3 i0 (.int .i64 0) 8 Try.underlying24 HI.out.1 HI.out.2.1 HI.out.2.2.1 HI.out.2.2.2 rfl (by omega) (fun _ => rfl) intL_one' rfl B k d ((blameK y.s i).flatMap intL) rfl HAP.out.1 [(i : Int)] (some ⟨w10.heap.size, 0, none⟩) 1 rfl HAP.out.2.1 (by have := HT8.out; have := HIN.out; have := HK.out.2; unfold maxLen; simp only [List.length_singleton]; omega) (by have := HT8.out; have := HIN.out; have := HK.out.2; simp only [List.length_singleton]; omega) HAP.out.2.2.size fun B3 d3 w11 hown hgr hat => hK _ _ ?_); have HE5 := Lib.hid (And.intro hown (below_row HAP.out.2.2 HAP.out.1 hgr (Nat.le_refl _))); clear hown hgr hat))
              go_roundw
              case rel =>
                refine ⟨i + 1, k + 1, B3, d3, HIN.out, by have := HT8.out; have := HIN.out; go_num, by rw [HKS.out, List.length_append, HK.out.1]; rfl, rfl, ?_, HE5.out.2⟩
                have h1 := HE5.out.1
                rw [← List.flatMap_append, ← HKS.out] at h1
                exact h1
              case measure => simp [intOf]; have := HT8.out; have := HIN.out; omega
          · obtain rfl : i = y.s.tools.length := by omega
            have hin : ¬ (y.s.tools.length : Int) < y.s.tools.length := by omega
            have x0 := HX.out.2.at 0 (v := .slice y.sa y.s.spots.length y.sc) rfl
            have x1 := HX.out.2.at 1 (v := vi y.s.strain) rfl
            have x2 := HX.out.2.at 2 (v := .slice y.ta y.s.tools.length y.tc) rfl
            have x3 := HX.out.2.at 3 (v := vi y.s.day) rfl
            have x4 := HX.out.2.at 4 (v := .slice y.ra y.s.reads.length y.rc) rfl
            by_cases hk0 : k = 0
            · have hnl : blameK y.s y.s.tools.length = [] := List.eq_nil_of_length_eq_zero (by rw [← HK.out.1, hk0])
              have hE9 : E = 9 := by rw [HEE.out, HE.out.2, if_pos hnl]
              subst hE9
              subst hk0
              have hbl : (blameK y.s y.s.tools.length).length = 0 := HK.out.1.symm
              rw [hbl]
              clear hnl hbl
              go_wp2_with fail
              refine (awake_any _).mono ?_
              rintro e wk ⟨rfl, hb⟩
              have HK := Lib.hid (newer_trans (HX.out.1) hb)
              clear hb
              go_wp2_with fail
              go_ret
              exact ⟨rfl, HK.out⟩
            · have hE9 : E = 0 := by rw [HEE.out, HE.out.2, if_neg (fun h => hk0 (by rw [HK.out.1, h]; rfl))]
              subst hE9
              have hrw2 : Row intL 1 wr wr.heap.size B (blameK y.s y.s.tools.length) := row_of_own (enc := intL) (size := 1) (by decide) (fun _ => rfl) (by have h := HJ.out.1; rw [HK.out.1] at h; exact h)
              have HLW := Lib.hid (lawInts (blameK y.s y.s.tools.length) (blameK y.s y.s.tools.length) KB B kd d wr (by have h1 := blameK_len y.s y.s.tools.length; have := HT8.out; omega) (by have h1 := blameK_len y.s y.s.tools.length; have := HT8.out; omega) ((HR5.out.below HJ.out.2).more HJ.out.2.size) hrw2)
              rw [decide_eq_true (rfl : blameK y.s y.s.tools.length = blameK y.s y.s.tools.length), ← HK.out.1] at HLW
              clear hrw2
              rw [← HK.out.1]
              have hk1 : ¬ (k : Int) = 0 := by omega
              go_wp2_with fail
              refine (HLW.out).mono ?_
              rintro e w12 ⟨rfl, hb⟩
              have H12 := Lib.hid (newer_trans HX.out.1 hb)
              clear hb HLW x0 x1 x2 x3 x4
              go_wp2_with fail
              refine (awake_any _).mono ?_
              rintro e wk ⟨rfl, hb⟩
              have HK := Lib.hid (newer_trans (H12.out) hb)
              clear hb
              go_wp2_with fail
              go_ret
              exact ⟨rfl, HK.out⟩

end Go.Proofs.Ytpmafnifgegfbaa
