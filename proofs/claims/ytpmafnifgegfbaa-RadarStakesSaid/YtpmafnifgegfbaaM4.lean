/- RadarStakes returns true: the best stake, and its worst, are as the document says, or the error is. -/
import Derived.Test.YtpmafnifgegfbaaM3
import Derived.Test.YtpmafnifgegfbaaAI
namespace Go.Proofs.Ytpmafnifgegfbaa
open Go.RowKit Go.Shelf Go.Deep

theorem stakeE_err {s : Sd} {ts : List Tl} (h : stakeE s ts ≠ 0) : bestE s ts = stakeE s ts := by unfold bestE; rw [if_neg h]
theorem stakeE_ok {s : Sd} {ts : List Tl} (h : stakeE s ts = 0) : errN s = 0 ∧ (1 ≤ ts.length ∧ ts.length ≤ 8) ∧ ∀ (k : Nat) (t : Tl), ts[k]? = some t → TlOk s.spots.length s.day t := by
  unfold stakeE at h
  by_cases he : errN s = 0
  · rw [if_pos he] at h
    cases hn : inB ts.length 1 8 with
    | false => rw [hn, if_neg (by decide)] at h; cases h
    | true =>
      rw [hn, if_pos rfl] at h
      cases hal : ts.all (stkB s) with
      | false => rw [hal, if_neg (by decide)] at h; cases h
      | true =>
        refine ⟨he, by unfold inB at hn; simp at hn; omega, fun k t hk => ?_⟩
        have h1 := List.all_eq_true.1 hal t (List.mem_of_getElem? hk)
        unfold stkB at h1
        rw [Bool.and_eq_true] at h1
        exact tlB_iff.1 h1.1
  · rw [if_neg he] at h; exact absurd h he
theorem pos_of {s : Sd} : posE (allT s) = if 60 < (turnsN s).length then 3 else if turnsN s = [] then 9 else 0 := by
  have hl : (turnsN s).length = (allT s).length := by unfold turnsN; rw [List.length_map]
  have hn : turnsN s = [] ↔ allT s = [] := by unfold turnsN; rw [List.map_eq_nil_iff]
  unfold posE
  rw [hl]
  by_cases h : allT s = []
  · rw [if_pos h, if_pos (hn.2 h)]
  · rw [if_neg h, if_neg (fun e => h (hn.1 e))]
set_option maxRecDepth 100000 in
set_option maxHeartbeats 8000000 in
theorem radarStakes_walk (y : Sm) (ts : List Tl) (A : Option Addr) (c : Nat) (w : World) (hok : SmOk y w) (hts : Row tlL 7 w w.heap.size A ts) : Calls Try.prog 14 #[smV y, .slice A ts.length c] w fun e w' => e = .returned (.bool true) ∧ newer w w' := by
  have hnw := newer_allocH w (.cells (smC y) 26)
  have hxb := Whole.made w 26 (smC y)
  have HFE := Lib.hid (few_any y _ (hok.next hnw))
  have HN0 := Lib.hid (And.intro hnw hxb)
  have HOK := Lib.hid hok
  have HTS := Lib.hid hts
  have x0 := hxb.at 0 (v := .slice y.sa y.s.spots.length y.sc) rfl
  have x1 := hxb.at 1 (v := vi y.s.strain) rfl
  have x2 := hxb.at 2 (v := .slice y.ta y.s.tools.length y.tc) rfl
  have x3 := hxb.at 3 (v := vi y.s.day) rfl
  have x4 := hxb.at 4 (v := .slice y.ra y.s.reads.length y.rc) rfl
  clear hok hts hnw hxb
  go_enter Try.func14, Try.ntmps14
  go_wp2_with fail
  refine (HFE.out).mono ?_
  rintro e w1 ⟨b, rfl, hfb, hb⟩
  have HN1 := Lib.hid (And.intro (newer_trans HN0.out.1 hb) (HN0.out.2.below hb HN0.out.2.lt))
  clear hb x0 x1 x2 x3 x4 HFE HN0
  cases b with
  | false =>
    clear hfb
    go_wp2_with fail
    refine (awake_any _).mono ?_
    rintro e wk ⟨rfl, hb⟩
    have HK := Lib.hid (newer_trans (HN1.out.1) hb)
    clear hb
    go_wp2_with fail
    go_ret
    exact ⟨rfl, HK.out⟩
  | true =>
    by_cases hl : (10 : Int) < ts.length
    case pos =>
      clear hfb
      go_wp2_with fail
      refine (awake_any _).mono ?_
      rintro e wk ⟨rfl, hb⟩
      have HK := Lib.hid (newer_trans (HN1.out.1) hb)
      clear hb
      go_wp2_with fail
      go_ret
      exact ⟨rfl, HK.out⟩
    case neg =>
      obtain ⟨hth, h3⟩ := hfb rfl
      have HFW := Lib.hid (thin_few hth).1
      have H10 := Lib.hid (show ts.length ≤ 10 by omega)
      clear hth hfb
      have H3 := Lib.hid h3
      clear h3
      have x0 := HN1.out.2.at 0 (v := .slice y.sa y.s.spots.length y.sc) rfl
      have x1 := HN1.out.2.at 1 (v := vi y.s.strain) rfl
      have x2 := HN1.out.2.at 2 (v := .slice y.ta y.s.tools.length y.tc) rfl
      have x3 := HN1.out.2.at 3 (v := vi y.s.day) rfl
      have x4 := HN1.out.2.at 4 (v := .slice y.ra y.s.reads.length y.rc) rfl
      go_wp2_with fail
      clear hl
      refine (staked_any y ts A c _ (HOK.out.next HN1.out.1) HFW.out H10.out ((HTS.out.below HN1.out.1).more HN1.out.1.size)).mono ?_
      rintro e w2 ⟨rfl, hb⟩
      have HN2 := Lib.hid (And.intro (newer_trans HN1.out.1 hb) (HN1.out.2.below hb HN1.out.2.lt))
      clear hb x0 x1 x2 x3 x4
      have x0 := HN2.out.2.at 0 (v := .slice y.sa y.s.spots.length y.sc) rfl
      have x1 := HN2.out.2.at 1 (v := vi y.s.strain) rfl
      have x2 := HN2.out.2.at 2 (v := .slice y.ta y.s.tools.length y.tc) rfl
      have x3 := HN2.out.2.at 3 (v := vi y.s.day) rfl
      have x4 := HN2.out.2.at 4 (v := .slice y.ra y.s.reads.length y.rc) rfl
      by_cases hE : stakeE y.s ts = 0
      case neg =>
        have HBE := Lib.hid (stakeE_err hE)
        obtain ⟨E, hEE⟩ : ∃ q, q = stakeE y.s ts := ⟨_, rfl⟩
        rw [← hEE] at hE HBE ⊢
        clear hEE
        go_wp2_with fail
        refine (survey_any y _ (HOK.out.next HN2.out.1) HFW.out).mono ?_
        rintro e w3 ⟨sa1, sc1, ta1, tc1, ra1, rc1, rfl, ho1, hb⟩
        have HP3 := Lib.hid (And.intro (newer_trans HN2.out.1 hb) (HN2.out.2.below hb HN2.out.2.lt))
        have HZ1 := Lib.hid ho1.ok
        clear ho1
        clear hb x0 x1 x2 x3 x4
        have x0 := HP3.out.2.at 0 (v := .slice y.sa y.s.spots.length y.sc) rfl
        have x1 := HP3.out.2.at 1 (v := vi y.s.strain) rfl
        have x2 := HP3.out.2.at 2 (v := .slice y.ta y.s.tools.length y.tc) rfl
        have x3 := HP3.out.2.at 3 (v := vi y.s.day) rfl
        have x4 := HP3.out.2.at 4 (v := .slice y.ra y.s.reads.length y.rc) rfl
        go_wp2_with fail
        refine (lawTools ts A c _ (by have := H10.out; omega) ((HTS.out.below HP3.out.1).more HP3.out.1.size)).mono ?_
        rintro e w4 ⟨PB, pd, rfl, hpo, hb⟩
        have HP4 := Lib.hid (And.intro (newer_trans HP3.out.1 hb) (HP3.out.2.below hb HP3.out.2.lt))
        have HBS := Lib.hid (best_any ⟨y.s, sa1, sc1, ta1, tc1, ra1, rc1⟩ ts PB pd _ (HZ1.out.next hb) (few_s (y := y) rfl HFW.out) (row_of_own (enc := tlL) (size := 7) (by decide) (fun _ => rfl) hpo))
        clear hb hpo x0 x1 x2 x3 x4
        have x0 := HP4.out.2.at 0 (v := .slice y.sa y.s.spots.length y.sc) rfl
        have x1 := HP4.out.2.at 1 (v := vi y.s.strain) rfl
        have x2 := HP4.out.2.at 2 (v := .slice y.ta y.s.tools.length y.tc) rfl
        have x3 := HP4.out.2.at 3 (v := vi y.s.day) rfl
        have x4 := HP4.out.2.at 4 (v := .slice y.ra y.s.reads.length y.rc) rfl
        go_wp2_with fail
        refine (HBS.out).mono ?_
        rintro e w5 ⟨rfl, hb⟩
        have HP5 := Lib.hid (And.intro (newer_trans HP4.out.1 hb) (HP4.out.2.below hb HP4.out.2.lt))
        clear hb HBS x0 x1 x2 x3 x4
        have hbp : bestP y.s ts = (0, 0) := by unfold bestP; rw [HBE.out, if_neg hE]
        rw [hbp, HBE.out]
        clear hbp
        go_wp2_with fail
        refine (awake_any _).mono ?_
        rintro e wk ⟨rfl, hb⟩
        have HK := Lib.hid (newer_trans (HP5.out.1) hb)
        clear hb
        go_wp2_with fail
        go_ret
        exact ⟨rfl, HK.out⟩
      case pos =>
        rw [hE]
        have HOKE := Lib.hid (stakeE_ok hE)
        have HE0 := Lib.hid hE
        clear hE
        have he := HOKE.out.1
        have h3s := (H3.out he).1
        have HT3 := Lib.hid (H3.out he).2
        have hsd := err_iff.1 he
        have HSD := Lib.hid hsd
        have hf0 := fields_any y hsd h3s y.s.spots.length [] none 0
        have HFL : Hid (∀ W, newer w W → Calls Try.prog 33 #[smV y, .slice none 0 0] W fun e w' => (∃ (xs : List Fl) (A : Option Addr) (c : Nat), e = .returned (.slice A xs.length c) ∧ Row flL 1 w' w'.heap.size A xs ∧ FlIn W.heap.size xs w' ∧ xs.map (·.f) = allR y.s) ∧ newer W w') := Lib.hid (fun W hW => hf0 W (HOK.out.next hW) (fun h => absurd rfl h) (by simp) (fun m hm => by simp at hm))
        have HAL : Hid ((allR y.s).length ≤ 5000000) := Lib.hid (Nat.le_trans (fields_len hsd (A := agreesB y.s) y.s.spots.length []) (Nat.le_trans (Nat.pow_le_pow_right (by decide) h3s) (by decide)))
        have HBE0 : Hid (bestE y.s ts = posE (allT y.s)) := Lib.hid (by unfold bestE; rw [HE0.out, if_pos rfl])
        clear hf0 h3s he hsd
        go_wp2_with fail
        refine (HFL.out _ HN2.out.1).mono ?_
        rintro e w3 ⟨⟨fs, FA, fc, rfl, hrw, hfi, hmap⟩, hb⟩
        have HN3 := Lib.hid (And.intro (newer_trans HN2.out.1 hb) (HN2.out.2.below hb HN2.out.2.lt))
        have HFS := Lib.hid (And.intro hrw (And.intro hfi hmap))
        clear hb x0 x1 x2 x3 x4 hrw hfi hmap HFL
        have x0 := HN3.out.2.at 0 (v := .slice y.sa y.s.spots.length y.sc) rfl
        have x1 := HN3.out.2.at 1 (v := vi y.s.strain) rfl
        have x2 := HN3.out.2.at 2 (v := .slice y.ta y.s.tools.length y.tc) rfl
        have x3 := HN3.out.2.at 3 (v := vi y.s.day) rfl
        have x4 := HN3.out.2.at 4 (v := .slice y.ra y.s.reads.length y.rc) rfl
        go_wp2_with fail
        refine (turnsR_all y fs FA fc _ w3 (HOK.out.next HN3.out.1) HSD.out HT3.out HFS.out.1 HFS.out.2.1 HAL.out HFS.out.2.2).mono ?_
        rintro e w4 ⟨us, UB, ud, rfl, -, hum, hb⟩
        have HN4 := Lib.hid (And.intro (newer_trans HN3.out.1 hb) (HN3.out.2.below hb HN3.out.2.lt))
        have HUL : Hid (us.length = (turnsN y.s).length) := Lib.hid (by have h1 := congrArg List.length hum; rw [List.length_map] at h1; exact h1)
        have HFS4 := Lib.hid (And.intro ((HFS.out.1.below hb).more hb.size) (And.intro (HFS.out.2.1.next hb) HFS.out.2.2))
        clear hb x0 x1 x2 x3 x4 hum
        have x0 := HN4.out.2.at 0 (v := .slice y.sa y.s.spots.length y.sc) rfl
        have x1 := HN4.out.2.at 1 (v := vi y.s.strain) rfl
        have x2 := HN4.out.2.at 2 (v := .slice y.ta y.s.tools.length y.tc) rfl
        have x3 := HN4.out.2.at 3 (v := vi y.s.day) rfl
        have x4 := HN4.out.2.at 4 (v := .slice y.ra y.s.reads.length y.rc) rfl
        by_cases ha : allR y.s = []
        case pos =>
          have HBE : Hid (bestE y.s ts = 9) := Lib.hid (by
            rw [HBE0.out, pos_of, ← turns_is HSD.out, ha]
            rfl)
          have hfs : fs = [] := by have h := HFS.out.2.2; rw [ha, List.map_eq_nil_iff] at h; exact h
          subst hfs
          clear ha
          go_wp2_with fail
          refine (survey_any y _ (HOK.out.next HN4.out.1) HFW.out).mono ?_
          rintro e w5 ⟨sa1, sc1, ta1, tc1, ra1, rc1, rfl, ho1, hb⟩
          have HP5 := Lib.hid (And.intro (newer_trans HN4.out.1 hb) (HN4.out.2.below hb HN4.out.2.lt))
          have HZ1 := Lib.hid ho1.ok
          clear ho1
          clear hb x0 x1 x2 x3 x4
          have x0 := HP5.out.2.at 0 (v := .slice y.sa y.s.spots.length y.sc) rfl
          have x1 := HP5.out.2.at 1 (v := vi y.s.strain) rfl
          have x2 := HP5.out.2.at 2 (v := .slice y.ta y.s.tools.length y.tc) rfl
          have x3 := HP5.out.2.at 3 (v := vi y.s.day) rfl
          have x4 := HP5.out.2.at 4 (v := .slice y.ra y.s.reads.length y.rc) rfl
          go_wp2_with fail
          refine (lawTools ts A c _ (by have := H10.out; omega) ((HTS.out.below HP5.out.1).more HP5.out.1.size)).mono ?_
          rintro e w6 ⟨PB, pd, rfl, hpo, hb⟩
          have HP6 := Lib.hid (And.intro (newer_trans HP5.out.1 hb) (HP5.out.2.below hb HP5.out.2.lt))
          have HBS := Lib.hid (best_any ⟨y.s, sa1, sc1, ta1, tc1, ra1, rc1⟩ ts PB pd _ (HZ1.out.next hb) (few_s (y := y) rfl HFW.out) (row_of_own (enc := tlL) (size := 7) (by decide) (fun _ => rfl) hpo))
          clear hb hpo x0 x1 x2 x3 x4
          have x0 := HP6.out.2.at 0 (v := .slice y.sa y.s.spots.length y.sc) rfl
          have x1 := HP6.out.2.at 1 (v := vi y.s.strain) rfl
          have x2 := HP6.out.2.at 2 (v := .slice y.ta y.s.tools.length y.tc) rfl
          have x3 := HP6.out.2.at 3 (v := vi y.s.day) rfl
          have x4 := HP6.out.2.at 4 (v := .slice y.ra y.s.reads.length y.rc) rfl
          go_wp2_with fail
          refine (HBS.out).mono ?_
          rintro e w7 ⟨rfl, hb⟩
          have HP7 := Lib.hid (And.intro (newer_trans HP6.out.1 hb) (HP6.out.2.below hb HP6.out.2.lt))
          clear hb HBS x0 x1 x2 x3 x4
          have hbp : bestP y.s ts = (0, 0) := by unfold bestP; rw [HBE.out, if_neg (by decide)]
          rw [hbp, HBE.out]
          clear hbp
          go_wp2_with fail
          refine (awake_any _).mono ?_
          rintro e wk ⟨rfl, hb⟩
          have HK := Lib.hid (newer_trans (HP7.out.1) hb)
          clear hb
          go_wp2_with fail
          go_ret
          exact ⟨rfl, HK.out⟩
        case neg =>
          have hpos : 0 < fs.length := List.length_pos_iff.2 (fun e => ha (by rw [← HFS.out.2.2, e]; rfl))
          have hpos2 : ¬ fs.length = 0 := by omega
          have hpos3 : ¬ (fs.length : Int) = 0 := by omega
          have HNE : Hid (turnsN y.s ≠ []) := Lib.hid (by rw [← turns_is HSD.out]; exact turnsR_ne ha fun f hf => hf)
          clear ha
          by_cases h60 : (60 : Int) < us.length
          case pos =>
            have HBE : Hid (bestE y.s ts = 3) := Lib.hid (by rw [HBE0.out, pos_of, if_pos (by rw [← HUL.out]; omega)])
            go_wp2_with fail
            refine (survey_any y _ (HOK.out.next HN4.out.1) HFW.out).mono ?_
            rintro e w5 ⟨sa1, sc1, ta1, tc1, ra1, rc1, rfl, ho1, hb⟩
            have HP5 := Lib.hid (And.intro (newer_trans HN4.out.1 hb) (HN4.out.2.below hb HN4.out.2.lt))
            have HZ1 := Lib.hid ho1.ok
            clear ho1
            clear hb x0 x1 x2 x3 x4
            have x0 := HP5.out.2.at 0 (v := .slice y.sa y.s.spots.length y.sc) rfl
            have x1 := HP5.out.2.at 1 (v := vi y.s.strain) rfl
            have x2 := HP5.out.2.at 2 (v := .slice y.ta y.s.tools.length y.tc) rfl
            have x3 := HP5.out.2.at 3 (v := vi y.s.day) rfl
            have x4 := HP5.out.2.at 4 (v := .slice y.ra y.s.reads.length y.rc) rfl
            go_wp2_with fail
            refine (lawTools ts A c _ (by have := H10.out; omega) ((HTS.out.below HP5.out.1).more HP5.out.1.size)).mono ?_
            rintro e w6 ⟨PB, pd, rfl, hpo, hb⟩
            have HP6 := Lib.hid (And.intro (newer_trans HP5.out.1 hb) (HP5.out.2.below hb HP5.out.2.lt))
            have HBS := Lib.hid (best_any ⟨y.s, sa1, sc1, ta1, tc1, ra1, rc1⟩ ts PB pd _ (HZ1.out.next hb) (few_s (y := y) rfl HFW.out) (row_of_own (enc := tlL) (size := 7) (by decide) (fun _ => rfl) hpo))
            clear hb hpo x0 x1 x2 x3 x4
            have x0 := HP6.out.2.at 0 (v := .slice y.sa y.s.spots.length y.sc) rfl
            have x1 := HP6.out.2.at 1 (v := vi y.s.strain) rfl
            have x2 := HP6.out.2.at 2 (v := .slice y.ta y.s.tools.length y.tc) rfl
            have x3 := HP6.out.2.at 3 (v := vi y.s.day) rfl
            have x4 := HP6.out.2.at 4 (v := .slice y.ra y.s.reads.length y.rc) rfl
            go_wp2_with fail
            refine (HBS.out).mono ?_
            rintro e w7 ⟨rfl, hb⟩
            have HP7 := Lib.hid (And.intro (newer_trans HP6.out.1 hb) (HP6.out.2.below hb HP6.out.2.lt))
            clear hb HBS x0 x1 x2 x3 x4
            have hbp : bestP y.s ts = (0, 0) := by unfold bestP; rw [HBE.out, if_neg (by decide)]
            rw [hbp, HBE.out]
            clear hbp
            go_wp2_with fail
            refine (awake_any _).mono ?_
            rintro e wk ⟨rfl, hb⟩
            have HK := Lib.hid (newer_trans (HP7.out.1) hb)
            clear hb
            go_wp2_with fail
            go_ret
            exact ⟨rfl, HK.out⟩
          case neg =>
            have HBE : Hid (bestE y.s ts = 0) := Lib.hid (by rw [HBE0.out, pos_of, if_neg (by rw [← HUL.out]; omega), if_neg HNE.out])
            obtain ⟨n, hnn⟩ : ∃ n, n = ts.length := ⟨_, rfl⟩
            have HNN := Lib.hid hnn
            by_cases hg : (3 : Int) < ts.length
            case pos =>
              clear x0 x1 x2 x3 x4 hnn
              go_wp2_with fail
              refine (awake_any _).mono ?_
              rintro e wk ⟨rfl, hb⟩
              have HK := Lib.hid (newer_trans (HN4.out.1) hb)
              clear hb
              go_wp2_with fail
              go_ret
              exact ⟨rfl, HK.out⟩
            case neg =>
              by_cases hg6 : (6 : Int) < us.length
              case pos =>
                clear x0 x1 x2 x3 x4 hnn
                go_wp2_with fail
                refine (awake_any _).mono ?_
                rintro e wk ⟨rfl, hb⟩
                have HK := Lib.hid (newer_trans (HN4.out.1) hb)
                clear hb
                go_wp2_with fail
                go_ret
                exact ⟨rfl, HK.out⟩
              case neg =>
                go_wp2_with fail
                refine (survey_any y _ (HOK.out.next HN4.out.1) HFW.out).mono ?_
                rintro e w5 ⟨sa1, sc1, ta1, tc1, ra1, rc1, rfl, ho1, hb⟩
                have HB45 := Lib.hid hb
                have HP5 := Lib.hid (And.intro (newer_trans HN4.out.1 hb) (HN4.out.2.below hb HN4.out.2.lt))
                have HZ1 := Lib.hid ho1.ok
                clear ho1
                clear hb x0 x1 x2 x3 x4
                have x0 := HP5.out.2.at 0 (v := .slice y.sa y.s.spots.length y.sc) rfl
                have x1 := HP5.out.2.at 1 (v := vi y.s.strain) rfl
                have x2 := HP5.out.2.at 2 (v := .slice y.ta y.s.tools.length y.tc) rfl
                have x3 := HP5.out.2.at 3 (v := vi y.s.day) rfl
                have x4 := HP5.out.2.at 4 (v := .slice y.ra y.s.reads.length y.rc) rfl
                go_wp2_with fail
                refine (lawTools ts A c _ (by have := H10.out; omega) ((HTS.out.below HP5.out.1).more HP5.out.1.size)).mono ?_
                rintro e w6 ⟨PB, pd, rfl, hpo, hb⟩
                have HB46 := Lib.hid (newer_trans HB45.out hb)
                have HP6 := Lib.hid (And.intro (newer_trans HP5.out.1 hb) (HP5.out.2.below hb HP5.out.2.lt))
                have HBS := Lib.hid (best_any ⟨y.s, sa1, sc1, ta1, tc1, ra1, rc1⟩ ts PB pd _ (HZ1.out.next hb) (few_s (y := y) rfl HFW.out) (row_of_own (enc := tlL) (size := 7) (by decide) (fun _ => rfl) hpo))
                clear hb hpo x0 x1 x2 x3 x4
                have x0 := HP6.out.2.at 0 (v := .slice y.sa y.s.spots.length y.sc) rfl
                have x1 := HP6.out.2.at 1 (v := vi y.s.strain) rfl
                have x2 := HP6.out.2.at 2 (v := .slice y.ta y.s.tools.length y.tc) rfl
                have x3 := HP6.out.2.at 3 (v := vi y.s.day) rfl
                have x4 := HP6.out.2.at 4 (v := .slice y.ra y.s.reads.length y.rc) rfl
                go_wp2_with fail
                refine (HBS.out).mono ?_
                rintro e w7 ⟨rfl, hb⟩
                have HP7 := Lib.hid (And.intro (newer_trans HP6.out.1 hb) (HP6.out.2.below hb HP6.out.2.lt))
                have HB47 := Lib.hid (newer_trans HB46.out hb)
                clear hb HBS x0 x1 x2 x3 x4
                have hbp : bestP y.s ts = bestK y.s ts ts.length := by unfold bestP; rw [HBE.out, if_pos rfl]
                rw [hbp, HBE.out]
                clear hbp
                have HSE : Hid (∀ (t : Tl) (k : Nat), ts[k]? = some t → ∀ W, newer w7 W → Calls Try.prog 55 #[smV y, .slice FA fs.length fc, tlV t] W fun e w' => e = .returned (vi (worstS y.s t)) ∧ newer W w') := Lib.hid (fun t k hk W hW => by
                  have h47 : newer w4 W := newer_trans HB47.out hW
                  have h := worstR_any y fs FA fc _ t W (HOK.out.next (newer_trans HN4.out.1 h47)) HT3.out ⟨HSD.out, HOKE.out.2.2 k t hk, (HFS4.out.1.below h47).more h47.size, HFS4.out.2.1.next h47, by have h1 := HAL.out; rw [← HFS4.out.2.2, List.length_map] at h1; exact h1, fun x hx => by rw [← HFS4.out.2.2]; exact List.mem_map.2 ⟨x, hx, rfl⟩⟩
                  rw [HFS4.out.2.2] at h
                  exact h)
                have hn1 := HOKE.out.2.1
                rw [← hnn] at hn1 hg ⊢
                have hn3 : n ≤ 3 := by omega
                have hnz : ¬ n = 0 := by omega
                obtain ⟨b1, hb1⟩ : ∃ q, q = (bestK y.s ts n).1 := ⟨_, rfl⟩
                obtain ⟨b2, hb2⟩ : ∃ q, q = (bestK y.s ts n).2 := ⟨_, rfl⟩
                rw [← hb1, ← hb2]
                have HBB := Lib.hid (And.intro hb1 hb2)
                clear hnn hb1 hb2
                obtain ⟨sb, hsb⟩ : ∃ q, q = w.heap.size := ⟨_, rfl⟩
                rw [← hsb] at HP7
                try rw [← hsb]
                clear hsb
                obtain ⟨t, htk⟩ : ∃ t, ts[0]? = some t := ⟨_, List.getElem?_eq_getElem (by have := HNN.out; omega)⟩
                obtain ⟨ab, ao, rfl, -, t0, t1, t2, t3, t4, t5, t6⟩ := row7 (HTS.out.below HP7.out.1) htk
                rw [Nat.zero_mul, Nat.add_zero] at t0 t1 t2 t3 t4 t5 t6
                have HWT := Lib.hid (HSE.out t 0 htk)
                have hbs := bestK_succ (s := y.s) htk
                rw [if_pos (.inl rfl)] at hbs
                obtain ⟨wt, hwt⟩ : ∃ q, q = worstS y.s t := ⟨_, rfl⟩
                rw [← hwt] at HWT hbs
                have HB1 := Lib.hid hbs
                clear htk hbs hwt
                have x0 := HP7.out.2.at 0 (v := .slice y.sa y.s.spots.length y.sc) rfl
                have x1 := HP7.out.2.at 1 (v := vi y.s.strain) rfl
                have x2 := HP7.out.2.at 2 (v := .slice y.ta y.s.tools.length y.tc) rfl
                have x3 := HP7.out.2.at 3 (v := vi y.s.day) rfl
                have x4 := HP7.out.2.at 4 (v := .slice y.ra y.s.reads.length y.rc) rfl
                go_wp2_with fail
                go_upto_region 18 with fail
                refine wp_words (by kernel_rfl) (region_told 6 (by kernel_rfl) (by kernel_rfl) (fun W => Below w7.heap.size w7 W) newer (pickD [vIs (smV y), vIs (.slice FA fs.length fc), vIs (.slice (some ⟨ab, ao, none⟩) n c), vIs (.pointer (some ⟨ab, ao, none⟩)), vIs (tlV t), vIs (vi wt)]) (fun h k => newer_trans h k) (pickD_stable _ ⟨vIs_st, vIs_st, vIs_st, vIs_st, vIs_st, vIs_st, trivial⟩) (Below.refl _ w7).drew (Below.refl _ _) ?_ ?_)
                · refine ⟨?_, ?_, ?_, ?_, ?_, ?_, trivial⟩
                  · intro a W hG hR hO hp
                    have h2 := hO.slot 2 (by kernel_rfl)
                    have c0 := keep_cell x0 hG
                    have c1 := keep_cell x1 hG
                    have c2 := keep_cell x2 hG
                    have c3 := keep_cell x3 hG
                    have c4 := keep_cell x4 hG
                    refine kY (v := smV y) hG rfl ?_
                    simp [slotOf] at h2
                    simp [execOp, go_sem, h2, c0, c1, c2, c3, c4]
                  · exact fun a W hG _ hO _ => kM 6 rfl (hO.slot 6 (by kernel_rfl)) rfl hG
                  · exact fun a W hG _ hO _ => kM 1 rfl (hO.slot 1 (by kernel_rfl)) rfl hG
                  · intro a W hG hR hO hp
                    have h75 : slotOf a 75 = .slice (some ⟨ab, ao, none⟩) n c := hp.1
                    refine kY (v := .pointer (some ⟨ab, ao, none⟩)) hG rfl ?_
                    simp [slotOf] at h75
                    simp [execOp, go_sem, h75, hnz]
                  · intro a W hG hR hO hp
                    have h76 : slotOf a 76 = .pointer (some ⟨ab, ao, none⟩) := hp.1
                    have c0 := keep_cell t0 hG
                    have c1 := keep_cell t1 hG
                    have c2 := keep_cell t2 hG
                    have c3 := keep_cell t3 hG
                    have c4 := keep_cell t4 hG
                    have c5 := keep_cell t5 hG
                    have c6 := keep_cell t6 hG
                    refine kY (v := tlV t) hG rfl ?_
                    simp [slotOf] at h76
                    simp [execOp, go_sem, h76, c0, c1, c2, c3, c4, c5, c6]
                  · intro a W hG hR hO hp
                    have h73 : slotOf a 73 = smV y := hp.1
                    have h74 : slotOf a 74 = .slice FA fs.length fc := hp.2.1
                    have h77 : slotOf a 77 = tlV t := hp.2.2.1
                    refine wp_enters (f := 55) (args := #[smV y, .slice FA fs.length fc, tlV t]) ?_ ((HWT.out W hG).mono ?_)
                    · simp [slotOf] at h73 h74 h77
                      simp [go_sem, h73, h74, h77]
                    · rintro e w' ⟨rfl, hb⟩
                      exact ⟨_, rfl, _, rfl, rfl, hb, below_next hG hb⟩
                · intro w8 hG hR
                  rintro _ rfl _ rfl _ rfl _ rfl _ rfl _ rfl
                  change wpList _ _ _ _ _ _
                  simp only [Act.put, List.setIfInBounds_toArray, List.set_cons_zero, List.set_cons_succ, List.drop_succ_cons, List.drop_zero]
                  have H8 := Lib.hid hG
                  clear hG x0 x1 x2 x3 x4 t0 t1 t2 t3 t4 t5 t6 HWT
                  go_wp2_with fail
                  try go_frame
                  go_loopw [11, 12, 13] (fun s11 s12 s13 wr => ∃ k : Nat, 1 ≤ k ∧ k ≤ n ∧ s11 = vi (bestK y.s ts k).1 ∧ s12 = vi (bestK y.s ts k).2 ∧ s13 = vi k ∧ newer w7 wr) (fun _ _ s13 _ => n - (intOf s13).toNat)
                  case atStart => exact ⟨1, Nat.le_refl _, by omega, by rw [HB1.out]; rfl, by rw [HB1.out], rfl, H8.out⟩
                  case round =>
                    obtain ⟨k, hk1, hk, rfl, rfl, rfl, hnw⟩ := hrel
                    have HW := Lib.hid hnw
                    obtain ⟨c1, hc1⟩ : ∃ q, q = (bestK y.s ts k).1 := ⟨_, rfl⟩
                    obtain ⟨c2, hc2⟩ : ∃ q, q = (bestK y.s ts k).2 := ⟨_, rfl⟩
                    rw [← hc1, ← hc2]
                    have HC := Lib.hid (And.intro hc1 hc2)
                    clear hc1 hc2
                    by_cases hlt : k < n
                    · have hkn : (k : Int) < n := by omega
                      obtain ⟨t, htk⟩ : ∃ t, ts[k]? = some t := ⟨_, List.getElem?_eq_getElem (by rw [← HNN.out]; exact hlt)⟩
                      obtain ⟨b4, o4, e4, -, t0, t1, t2, t3, t4, t5, t6⟩ := row7 (HTS.out.below (newer_trans HP7.out.1 hnw)) htk
                      injection e4 with e4
                      injection e4 with e5 e6
                      subst e5 e6
                      have HWT0 := HSE.out t k htk
                      have HWT : Hid (∀ W, newer wr W → Calls Try.prog 55 #[smV y, .slice FA fs.length fc, tlV t] W fun e w' => e = .returned (vi (worstS y.s t)) ∧ newer W w') := Lib.hid (fun W hW => HWT0 W (newer_trans HW.out hW))
                      have hbs := bestK_succ (s := y.s) htk
                      obtain ⟨wt, hwt⟩ : ∃ q, q = worstS y.s t := ⟨_, rfl⟩
                      rw [← hwt] at HWT hbs
                      rw [← HC.out.2] at hbs
                      have HBS := Lib.hid hbs
                      have HLT := Lib.hid (And.intro hlt hk1)
                      have hx := HP7.out.2.below hnw HP7.out.2.lt
                      clear hnw htk hbs hwt HWT0
                      have x0 := hx.at 0 (v := .slice y.sa y.s.spots.length y.sc) rfl
                      have x1 := hx.at 1 (v := vi y.s.strain) rfl
                      have x2 := hx.at 2 (v := .slice y.ta y.s.tools.length y.tc) rfl
                      have x3 := hx.at 3 (v := vi y.s.day) rfl
                      have x4 := hx.at 4 (v := .slice y.ra y.s.reads.length y.rc) rfl
                      clear hx
                      go_wp2_with fail
                      go_upto_region 22 with fail
                      refine wp_words (by kernel_rfl) (region_told 7 (by kernel_rfl) (by kernel_rfl) (fun W => Below wr.heap.size wr W) newer (pickD [vIs (smV y), vIs (.slice FA fs.length fc), vIs (.slice (some ⟨ab, ao, none⟩) n c), vIs (.int .i64 k), vIs (.pointer (some ⟨ab, ao + k * 7, none⟩)), vIs (tlV t), vIs (vi wt)]) (fun h k => newer_trans h k) (pickD_stable _ ⟨vIs_st, vIs_st, vIs_st, vIs_st, vIs_st, vIs_st, vIs_st, trivial⟩) (Below.refl _ wr).drew (Below.refl _ _) ?_ ?_)
                      · refine ⟨?_, ?_, ?_, ?_, ?_, ?_, ?_, trivial⟩
                        · intro a W hG hR hO hp
                          have h2 := hO.slot 2 (by kernel_rfl)
                          have c0 := keep_cell x0 hG
                          have c1 := keep_cell x1 hG
                          have c2 := keep_cell x2 hG
                          have c3 := keep_cell x3 hG
                          have c4 := keep_cell x4 hG
                          refine kY (v := smV y) hG rfl ?_
                          simp [slotOf] at h2
                          simp [execOp, go_sem, h2, c0, c1, c2, c3, c4]
                        · exact fun a W hG _ hO _ => kM 6 rfl (hO.slot 6 (by kernel_rfl)) rfl hG
                        · exact fun a W hG _ hO _ => kM 1 rfl (hO.slot 1 (by kernel_rfl)) rfl hG
                        · exact fun a W hG _ hO _ => kM 13 rfl (hO.slot 13 (by kernel_rfl)) rfl hG
                        · intro a W hG hR hO hp
                          have h87 : slotOf a 87 = .slice (some ⟨ab, ao, none⟩) n c := hp.1
                          have h88 : slotOf a 88 = .int .i64 k := hp.2.1
                          refine kY (v := .pointer (some ⟨ab, ao + k * 7, none⟩)) hG rfl ?_
                          simp [slotOf] at h87 h88
                          simp [execOp, go_sem, h87, h88, hkn]
                        · intro a W hG hR hO hp
                          have h89 : slotOf a 89 = .pointer (some ⟨ab, ao + k * 7, none⟩) := hp.1
                          have c0 := keep_cell t0 hG
                          have c1 := keep_cell t1 hG
                          have c2 := keep_cell t2 hG
                          have c3 := keep_cell t3 hG
                          have c4 := keep_cell t4 hG
                          have c5 := keep_cell t5 hG
                          have c6 := keep_cell t6 hG
                          refine kY (v := tlV t) hG rfl ?_
                          simp [slotOf] at h89
                          simp [execOp, go_sem, h89, c0, c1, c2, c3, c4, c5, c6]
                        · intro a W hG hR hO hp
                          have h85 : slotOf a 85 = smV y := hp.1
                          have h86 : slotOf a 86 = .slice FA fs.length fc := hp.2.1
                          have h90 : slotOf a 90 = tlV t := hp.2.2.1
                          refine wp_enters (f := 55) (args := #[smV y, .slice FA fs.length fc, tlV t]) ?_ ((HWT.out W hG).mono ?_)
                          · simp [slotOf] at h85 h86 h90
                            simp [go_sem, h85, h86, h90]
                          · rintro e w' ⟨rfl, hb⟩
                            exact ⟨_, rfl, _, rfl, rfl, hb, below_next hG hb⟩
                      · intro w9 hG hR
                        rintro _ rfl _ rfl _ rfl _ rfl _ rfl _ rfl _ rfl
                        change wpList _ _ _ _ _ _
                        simp only [Act.put, List.setIfInBounds_toArray, List.set_cons_zero, List.set_cons_succ, List.drop_succ_cons, List.drop_zero]
                        have H9 := Lib.hid (newer_trans HW.out hG)
                        clear hG x0 x1 x2 x3 x4 t0 t1 t2 t3 t4 t5 t6 HWT
                        by_cases hlw : wt < c2
                        · have HQ : Hid (bestK y.s ts (k + 1) = ((k : Int), wt)) := Lib.hid (by rw [HBS.out, if_pos (.inr hlw)])
                          go_wp2_with fail
                          go_roundw
                          case rel => exact ⟨k + 1, by omega, HLT.out.1, by rw [HQ.out], by rw [HQ.out], by go_num, H9.out⟩
                          case measure => simp [intOf]; omega
                        · have HQ : Hid (bestK y.s ts (k + 1) = bestK y.s ts k) := Lib.hid (by rw [HBS.out, if_neg (fun h => h.elim (fun e => by have := HLT.out.2; omega) hlw)])
                          go_wp2_with fail
                          go_roundw
                          case rel => exact ⟨k + 1, by omega, HLT.out.1, by rw [HQ.out, ← HC.out.1], by rw [HQ.out, ← HC.out.2], by go_num, H9.out⟩
                          case measure => simp [intOf]; omega
                    · obtain rfl : k = n := by omega
                      have hkn : ¬ (k : Int) < k := by omega
                      have e1 : c1 = b1 := HC.out.1.trans HBB.out.1.symm
                      have e2 : c2 = b2 := HC.out.2.trans HBB.out.2.symm
                      subst e1 e2
                      clear hnw
                      go_wp2_with fail
                      refine (awake_any _).mono ?_
                      rintro e wk ⟨rfl, hb⟩
                      have HK := Lib.hid (newer_trans (newer_trans HP7.out.1 HW.out) hb)
                      clear hb
                      go_wp2_with fail
                      go_ret
                      exact ⟨rfl, HK.out⟩

end Go.Proofs.Ytpmafnifgegfbaa

namespace Go.Proofs.Ytpmafnifgegfbaa
open Go.ChangeShapes Go.WideShapes Go.ChangeAt Go.RowKit Go.Deep

set_option maxRecDepth 100000 in
set_option maxHeartbeats 1000000 in
theorem radarStakes_lifted (os : Os) (started : os.Started) (H : Type) (enc : TypeId × Value → H) :
    ReturnsInHanded {} Try.checked os 14 .any (Rows.radarStakesSpec.pre6 enc Try.prog Try.f14 Rows.radarStakesRow.domain false) (Rows.radarStakesSpec.post enc Try.prog Try.f14 false true false false) := by
  refine returnsInHanded_of_change (C := Try.checked) Try.own started (by kernel_rfl) Try.func14
    (ChangeSpec.witness6 (enc := enc) (C := Try.checked) false ⟨#[], #[.agg #[.slice none 0 0, .int .i64 0, .slice none 0 0, .int .i64 0, .slice none 0 0], .slice none 0 0], []⟩ 8 (by kernel_rfl) (by kernel_rfl) (by kernel_rfl) (by kernel_rfl)) ?_
  intro W base args ds gs before hval0 hW hcnd _
  have hval : ∀ (j : Nat) t v, Try.f14.params[j]? = some t → args[j]? = some v → Value.okWide Try.prog W .any base t v := hval0
  have hW' := hW
  obtain ⟨p, q, hA0, hV, rfl, hfz, hnd⟩ := hW
  have hA : DataW.TrodAll enc Try.prog W 0 (fun _ => true) true Try.f14.params.toList args.toList ds p := hA0
  rw [Try.params14] at hA hval
  obtain ⟨v0, vs0, d0, ds0, p0, q0, hargs, rfl, rfl, h0, r0⟩ := trodAll_cons hA
  obtain ⟨v1, vs1, d1, ds1, p1, q1, rfl, rfl, rfl, h1, r1⟩ := trodAll_cons r0
  obtain ⟨rfl, rfl, rfl⟩ := trodAll_nil r1
  obtain rfl : args = #[v0, v1] := by cases args; simp_all
  obtain ⟨rfl, rfl⟩ := trodVars_none hV
  obtain ⟨c0, rfl, hs0⟩ := okWide_struct Try.underlying26 (hval 0 26 v0 rfl rfl)
  have k0 := h0
  have lt0 : ∀ x ∈ p0, x.block < W.heap.size := by obtain ⟨m, hm⟩ := k0; exact DataW.trod_lt m _ _ _ hm
  obtain ⟨g0, e0, hrow0⟩ : ∃ p : Sm, c0.toList = (smC p).toList ∧ SmOk p W := by
    obtain ⟨fuel, hf⟩ := h0
    exact survey_open hf
  obtain rfl : c0 = smC g0 := Array.toList_inj.1 e0
  obtain ⟨a1, len1, cap1, rfl⟩ := okWide_slice Try.underlying23 (hval 1 23 v1 rfl rfl)
  have k1 := h1
  have lt1 : ∀ x ∈ p1, x.block < W.heap.size := by obtain ⟨m, hm⟩ := k1; exact DataW.trod_lt m _ _ _ hm
  obtain ⟨D1, l1, dp1, e1, hl1, hrow1⟩ : ∃ (D : Option Addr) (l : List Tl) (dp : Nat), (Value.slice a1 len1 cap1).cells.toList = [.slice D l.length dp] ∧ l.length ≤ maxLen ∧ Row tlL 7 W W.heap.size D l := by
    obtain ⟨fuel, hf⟩ := h1
    exact tools_open hf
  simp [Value.cells] at e1
  obtain ⟨rfl, rfl, rfl⟩ := e1
  clear hA0 hval0
  refine (radarStakes_walk g0 l1 a1 cap1 W hrow0 hrow1).mono fun e W' ⟨he, bel⟩ => ?_
  subst he
  exact ⟨_, rfl, _, _, _, [], _, [], hW', trodAll_mk1 (shut_bool Try.underlying4 _), (trodAll_cons_mk (Below.trod Try.laidOut (by kernel_rfl) (of_decide_eq_true (by kernel_rfl)) k0 bel lt0) (trodAll_cons_mk (Below.trod Try.laidOut (by kernel_rfl) (of_decide_eq_true (by kernel_rfl)) k1 bel lt1) trodAll_mk0)), rfl, bel.frame _, fun h => by cases h⟩

theorem radarStakes_holds : Rows.RadarStakesSaid :=
  OpenClaim.holds_of_wide 14 Try.f14 rfl rfl rfl rfl rfl rfl rfl ⟨rfl, rfl, rfl, rfl, rfl⟩ rfl rfl rfl rfl rfl (by kernel_rfl) Try.func14 (by kernel_rfl)
    (of_decide_eq_true (by kernel_rfl)) (by unfold Func.isWrapper; first | (rw [if_pos (by decide +kernel)]; kernel_rfl) | (rw [if_neg (by decide +kernel)]; exact ⟨rfl, rfl⟩))
    (fun os started H enc _ => radarStakes_lifted os started H enc)
#print axioms radarStakes_holds

end Go.Proofs.Ytpmafnifgegfbaa
