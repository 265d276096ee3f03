/- RadarLearns walked: it returns true, and leaves what was there. -/
import Derived.Test.YtpmafnifgegfbaaBM
import Derived.Test.YtpmafnifgegfbaaBN
import Derived.Test.YtpmafnifgegfbaaAL2
namespace Go.Proofs.Ytpmafnifgegfbaa
open Go.RowKit Go.Shelf Go.Deep

theorem learn_okN (y : Sm) (w : World) (hok : SmOk y w) (few : SmFew y) (he : errN y.s = 0) (ho : okS y.s (freeL y.s) = true) : Calls Try.prog 26 #[smV y] w fun e w' => ∃ B d, e = .returned (.tuple #[.slice B y.s.spots.length d, vi 0]) ∧ w'.ownsRow w.heap.size 56 4 (.slice B y.s.spots.length d) y.s.spots.length ((knL y.s).flatMap spL) ∧ newer w w' := by
  have h := learn_ok y w hok few he ho
  rw [show (knL y.s).length = y.s.spots.length from knK_len _ _] at h
  exact h
theorem fields_len_all {s : Sd} {f : List Mv} (h : f ∈ allR s) : f.length = s.spots.length := by
  have h1 := (Bool.and_eq_true _ _ ▸ mem_all.1 h : isFieldB s f = true ∧ waysB s f = true).1
  exact (isField_iff.1 h1).1
set_option maxRecDepth 100000 in
set_option maxHeartbeats 8000000 in
theorem radarLearns_walk (y : Sm) (w : World) (hok : SmOk y w) : Calls Try.prog 9 #[smV y] w fun e w' => e = .returned (.bool true) ∧ newer w w' := by
  have hnw := newer_allocH w (.cells (smC y) 26)
  have hxb := Whole.made w 26 (smC y)
  have HFE := Lib.hid (few_any y _ (hok.next hnw))
  have HN0 := Lib.hid (And.intro hnw hxb)
  have HOK := Lib.hid hok
  have x0 := hxb.at 0 (v := .slice y.sa y.s.spots.length y.sc) rfl
  have x1 := hxb.at 1 (v := vi y.s.strain) rfl
  have x2 := hxb.at 2 (v := .slice y.ta y.s.tools.length y.tc) rfl
  have x3 := hxb.at 3 (v := vi y.s.day) rfl
  have x4 := hxb.at 4 (v := .slice y.ra y.s.reads.length y.rc) rfl
  clear hok hnw hxb
  go_enter Try.func9, Try.ntmps9
  go_wp2_with fail
  refine (HFE.out).mono ?_
  rintro e w1 ⟨b, rfl, hfb, hb⟩
  have HN1 := Lib.hid (And.intro (newer_trans HN0.out.1 hb) (HN0.out.2.below hb HN0.out.2.lt))
  clear hb x0 x1 x2 x3 x4 HFE HN0
  have x0 := HN1.out.2.at 0 (v := .slice y.sa y.s.spots.length y.sc) rfl
  have x1 := HN1.out.2.at 1 (v := vi y.s.strain) rfl
  have x2 := HN1.out.2.at 2 (v := .slice y.ta y.s.tools.length y.tc) rfl
  have x3 := HN1.out.2.at 3 (v := vi y.s.day) rfl
  have x4 := HN1.out.2.at 4 (v := .slice y.ra y.s.reads.length y.rc) rfl
  cases b with
  | false =>
    clear hfb x0 x1 x2 x3 x4
    go_wp2_with fail
    refine (awake_any _).mono ?_
    rintro e wk ⟨rfl, hb⟩
    have HK := Lib.hid (newer_trans (HN1.out.1) hb)
    clear hb
    go_wp2_with fail
    go_ret
    exact ⟨rfl, HK.out⟩
  | true =>
    obtain ⟨hth, h3⟩ := hfb rfl
    have HFW := Lib.hid (thin_few hth).1
    clear hth hfb
    by_cases he : errN y.s = 0
    case neg =>
      clear h3
      go_wp2_with fail
      refine (survey_any y _ (HOK.out.next HN1.out.1) HFW.out).mono ?_
      rintro e w2 ⟨sa1, sc1, ta1, tc1, ra1, rc1, rfl, ho1, hb⟩
      have HN2 := Lib.hid (And.intro (newer_trans HN1.out.1 hb) (HN1.out.2.below hb HN1.out.2.lt))
      have HZ1 := Lib.hid ho1.ok
      clear ho1
      clear hb x0 x1 x2 x3 x4
      have x0 := HN2.out.2.at 0 (v := .slice y.sa y.s.spots.length y.sc) rfl
      have x1 := HN2.out.2.at 1 (v := vi y.s.strain) rfl
      have x2 := HN2.out.2.at 2 (v := .slice y.ta y.s.tools.length y.tc) rfl
      have x3 := HN2.out.2.at 3 (v := vi y.s.day) rfl
      have x4 := HN2.out.2.at 4 (v := .slice y.ra y.s.reads.length y.rc) rfl
      go_wp2_with fail
      refine (checkSurvey_any ⟨y.s, sa1, sc1, ta1, tc1, ra1, rc1⟩ _ HZ1.out (few_s (y := y) rfl HFW.out)).mono ?_
      rintro e w3 ⟨rfl, hb⟩
      have HN3 := Lib.hid (And.intro (newer_trans HN2.out.1 hb) (HN2.out.2.below hb HN2.out.2.lt))
      clear hb x0 x1 x2 x3 x4
      have x0 := HN3.out.2.at 0 (v := .slice y.sa y.s.spots.length y.sc) rfl
      have x1 := HN3.out.2.at 1 (v := vi y.s.strain) rfl
      have x2 := HN3.out.2.at 2 (v := .slice y.ta y.s.tools.length y.tc) rfl
      have x3 := HN3.out.2.at 3 (v := vi y.s.day) rfl
      have x4 := HN3.out.2.at 4 (v := .slice y.ra y.s.reads.length y.rc) rfl
      go_wp2_with fail
      refine (survey_any y _ (HOK.out.next HN3.out.1) HFW.out).mono ?_
      rintro e w4 ⟨sa2, sc2, ta2, tc2, ra2, rc2, rfl, ho2, hb⟩
      have HN4 := Lib.hid (And.intro (newer_trans HN3.out.1 hb) (HN3.out.2.below hb HN3.out.2.lt))
      have HZ2 := Lib.hid ho2.ok
      clear ho2
      clear hb x0 x1 x2 x3 x4
      have x0 := HN4.out.2.at 0 (v := .slice y.sa y.s.spots.length y.sc) rfl
      have x1 := HN4.out.2.at 1 (v := vi y.s.strain) rfl
      have x2 := HN4.out.2.at 2 (v := .slice y.ta y.s.tools.length y.tc) rfl
      have x3 := HN4.out.2.at 3 (v := vi y.s.day) rfl
      have x4 := HN4.out.2.at 4 (v := .slice y.ra y.s.reads.length y.rc) rfl
      go_wp2_with fail
      refine (learn_err ⟨y.s, sa2, sc2, ta2, tc2, ra2, rc2⟩ _ HZ2.out (few_s (y := y) rfl HFW.out) he).mono ?_
      rintro e w5 ⟨rfl, hb⟩
      have HN5 := Lib.hid (And.intro (newer_trans HN4.out.1 hb) (HN4.out.2.below hb HN4.out.2.lt))
      clear hb x0 x1 x2 x3 x4
      have x0 := HN5.out.2.at 0 (v := .slice y.sa y.s.spots.length y.sc) rfl
      have x1 := HN5.out.2.at 1 (v := vi y.s.strain) rfl
      have x2 := HN5.out.2.at 2 (v := .slice y.ta y.s.tools.length y.tc) rfl
      have x3 := HN5.out.2.at 3 (v := vi y.s.day) rfl
      have x4 := HN5.out.2.at 4 (v := .slice y.ra y.s.reads.length y.rc) rfl
      go_wp2_with fail
      refine (refFault_any y _ (HOK.out.next HN5.out.1) HFW.out).mono ?_
      rintro e w6 ⟨rfl, hb⟩
      have HN6 := Lib.hid (And.intro (newer_trans HN5.out.1 hb) (HN5.out.2.below hb HN5.out.2.lt))
      clear hb x0 x1 x2 x3 x4
      have x0 := HN6.out.2.at 0 (v := .slice y.sa y.s.spots.length y.sc) rfl
      have x1 := HN6.out.2.at 1 (v := vi y.s.strain) rfl
      have x2 := HN6.out.2.at 2 (v := .slice y.ta y.s.tools.length y.tc) rfl
      have x3 := HN6.out.2.at 3 (v := vi y.s.day) rfl
      have x4 := HN6.out.2.at 4 (v := .slice y.ra y.s.reads.length y.rc) rfl
      clear x0 x1 x2 x3 x4
      go_wp2_with fail
      refine (awake_any _).mono ?_
      rintro e wk ⟨rfl, hb⟩
      have HK := Lib.hid (newer_trans (HN6.out.1) hb)
      clear hb
      go_wp2_with fail
      go_ret
      exact ⟨rfl, HK.out⟩
    case pos =>
      have h3 := h3 he
      have hsd := err_iff.1 he
      have hf0 := fields_any y hsd h3 y.s.spots.length [] none 0
      have HFL : Hid (∀ W, newer w W → Calls Try.prog 33 #[smV y, .slice none 0 0] W fun e w' => (∃ (xs : List Fl) (A : Option Addr) (c : Nat), e = .returned (.slice A xs.length c) ∧ Row flL 1 w' w'.heap.size A xs ∧ FlIn W.heap.size xs w' ∧ xs.map (·.f) = allR y.s) ∧ newer W w') := Lib.hid (fun W hW => hf0 W (HOK.out.next hW) (fun h => absurd rfl h) (by simp) (fun m hm => by simp at hm))
      have HAN := Lib.hid (all_ne hsd)
      have HAL : Hid ((allR y.s).length ≤ 5000000) := Lib.hid (Nat.le_trans (fields_len hsd (A := agreesB y.s) y.s.spots.length []) (Nat.le_trans (Nat.pow_le_pow_right (by decide) h3) (by decide)))
      have HKN := Lib.hid (fun h => knB_is hsd h)
      have HSP := Lib.hid hsd.spots
      clear hf0 hsd h3
      cases ho : okS y.s (freeL y.s) with
      | false =>
        go_wp2_with fail
        refine (survey_any y _ (HOK.out.next HN1.out.1) HFW.out).mono ?_
        rintro e w2 ⟨sa1, sc1, ta1, tc1, ra1, rc1, rfl, ho1, hb⟩
        have HN2 := Lib.hid (And.intro (newer_trans HN1.out.1 hb) (HN1.out.2.below hb HN1.out.2.lt))
        have HZ1 := Lib.hid ho1.ok
        clear ho1
        clear hb x0 x1 x2 x3 x4
        have x0 := HN2.out.2.at 0 (v := .slice y.sa y.s.spots.length y.sc) rfl
        have x1 := HN2.out.2.at 1 (v := vi y.s.strain) rfl
        have x2 := HN2.out.2.at 2 (v := .slice y.ta y.s.tools.length y.tc) rfl
        have x3 := HN2.out.2.at 3 (v := vi y.s.day) rfl
        have x4 := HN2.out.2.at 4 (v := .slice y.ra y.s.reads.length y.rc) rfl
        go_wp2_with fail
        refine (checkSurvey_any ⟨y.s, sa1, sc1, ta1, tc1, ra1, rc1⟩ _ HZ1.out (few_s (y := y) rfl HFW.out)).mono ?_
        rintro e w3 ⟨rfl, hb⟩
        have HN3 := Lib.hid (And.intro (newer_trans HN2.out.1 hb) (HN2.out.2.below hb HN2.out.2.lt))
        clear hb x0 x1 x2 x3 x4
        have x0 := HN3.out.2.at 0 (v := .slice y.sa y.s.spots.length y.sc) rfl
        have x1 := HN3.out.2.at 1 (v := vi y.s.strain) rfl
        have x2 := HN3.out.2.at 2 (v := .slice y.ta y.s.tools.length y.tc) rfl
        have x3 := HN3.out.2.at 3 (v := vi y.s.day) rfl
        have x4 := HN3.out.2.at 4 (v := .slice y.ra y.s.reads.length y.rc) rfl
        go_wp2_with fail
        refine (survey_any y _ (HOK.out.next HN3.out.1) HFW.out).mono ?_
        rintro e w4 ⟨sa2, sc2, ta2, tc2, ra2, rc2, rfl, ho2, hb⟩
        have HN4 := Lib.hid (And.intro (newer_trans HN3.out.1 hb) (HN3.out.2.below hb HN3.out.2.lt))
        have HZ2 := Lib.hid ho2.ok
        clear ho2
        clear hb x0 x1 x2 x3 x4
        have x0 := HN4.out.2.at 0 (v := .slice y.sa y.s.spots.length y.sc) rfl
        have x1 := HN4.out.2.at 1 (v := vi y.s.strain) rfl
        have x2 := HN4.out.2.at 2 (v := .slice y.ta y.s.tools.length y.tc) rfl
        have x3 := HN4.out.2.at 3 (v := vi y.s.day) rfl
        have x4 := HN4.out.2.at 4 (v := .slice y.ra y.s.reads.length y.rc) rfl
        go_wp2_with fail
        refine (learn_bad ⟨y.s, sa2, sc2, ta2, tc2, ra2, rc2⟩ _ HZ2.out (few_s (y := y) rfl HFW.out) he ho).mono ?_
        rintro e w5 ⟨rfl, hb⟩
        have HN5 := Lib.hid (And.intro (newer_trans HN4.out.1 hb) (HN4.out.2.below hb HN4.out.2.lt))
        clear hb x0 x1 x2 x3 x4
        have x0 := HN5.out.2.at 0 (v := .slice y.sa y.s.spots.length y.sc) rfl
        have x1 := HN5.out.2.at 1 (v := vi y.s.strain) rfl
        have x2 := HN5.out.2.at 2 (v := .slice y.ta y.s.tools.length y.tc) rfl
        have x3 := HN5.out.2.at 3 (v := vi y.s.day) rfl
        have x4 := HN5.out.2.at 4 (v := .slice y.ra y.s.reads.length y.rc) rfl
        go_wp2_with fail
        refine (refFault_any y _ (HOK.out.next HN5.out.1) HFW.out).mono ?_
        rintro e w6 ⟨rfl, hb⟩
        have HN6 := Lib.hid (And.intro (newer_trans HN5.out.1 hb) (HN5.out.2.below hb HN5.out.2.lt))
        clear hb x0 x1 x2 x3 x4
        have x0 := HN6.out.2.at 0 (v := .slice y.sa y.s.spots.length y.sc) rfl
        have x1 := HN6.out.2.at 1 (v := vi y.s.strain) rfl
        have x2 := HN6.out.2.at 2 (v := .slice y.ta y.s.tools.length y.tc) rfl
        have x3 := HN6.out.2.at 3 (v := vi y.s.day) rfl
        have x4 := HN6.out.2.at 4 (v := .slice y.ra y.s.reads.length y.rc) rfl
        go_wp2_with fail
        refine (HFL.out _ HN6.out.1).mono ?_
        rintro e w7 ⟨⟨xs, A, c, rfl, -, -, hmap⟩, hb⟩
        have hal : allR y.s = [] := by
          apply Decidable.byContradiction
          intro hne
          have h := HAN.out.1 hne
          rw [ho] at h
          cases h
        rw [hal, List.map_eq_nil_iff] at hmap
        subst hmap
        have HN7 := Lib.hid (newer_trans HN6.out.1 hb)
        clear hb x0 x1 x2 x3 x4 hal
        go_wp2_with fail
        refine (awake_any _).mono ?_
        rintro e wk ⟨rfl, hb⟩
        have HK := Lib.hid (newer_trans (HN7.out) hb)
        clear hb
        go_wp2_with fail
        go_ret
        exact ⟨rfl, HK.out⟩
      | true =>
        go_wp2_with fail
        refine (survey_any y _ (HOK.out.next HN1.out.1) HFW.out).mono ?_
        rintro e w2 ⟨sa1, sc1, ta1, tc1, ra1, rc1, rfl, ho1, hb⟩
        have HN2 := Lib.hid (And.intro (newer_trans HN1.out.1 hb) (HN1.out.2.below hb HN1.out.2.lt))
        have HZ1 := Lib.hid ho1.ok
        clear ho1
        clear hb x0 x1 x2 x3 x4
        have x0 := HN2.out.2.at 0 (v := .slice y.sa y.s.spots.length y.sc) rfl
        have x1 := HN2.out.2.at 1 (v := vi y.s.strain) rfl
        have x2 := HN2.out.2.at 2 (v := .slice y.ta y.s.tools.length y.tc) rfl
        have x3 := HN2.out.2.at 3 (v := vi y.s.day) rfl
        have x4 := HN2.out.2.at 4 (v := .slice y.ra y.s.reads.length y.rc) rfl
        go_wp2_with fail
        refine (checkSurvey_any ⟨y.s, sa1, sc1, ta1, tc1, ra1, rc1⟩ _ HZ1.out (few_s (y := y) rfl HFW.out)).mono ?_
        rintro e w3 ⟨rfl, hb⟩
        have HN3 := Lib.hid (And.intro (newer_trans HN2.out.1 hb) (HN2.out.2.below hb HN2.out.2.lt))
        clear hb x0 x1 x2 x3 x4
        have x0 := HN3.out.2.at 0 (v := .slice y.sa y.s.spots.length y.sc) rfl
        have x1 := HN3.out.2.at 1 (v := vi y.s.strain) rfl
        have x2 := HN3.out.2.at 2 (v := .slice y.ta y.s.tools.length y.tc) rfl
        have x3 := HN3.out.2.at 3 (v := vi y.s.day) rfl
        have x4 := HN3.out.2.at 4 (v := .slice y.ra y.s.reads.length y.rc) rfl
        go_wp2_with fail
        refine (survey_any y _ (HOK.out.next HN3.out.1) HFW.out).mono ?_
        rintro e w4 ⟨sa2, sc2, ta2, tc2, ra2, rc2, rfl, ho2, hb⟩
        have HN4 := Lib.hid (And.intro (newer_trans HN3.out.1 hb) (HN3.out.2.below hb HN3.out.2.lt))
        have HZ2 := Lib.hid ho2.ok
        clear ho2
        clear hb x0 x1 x2 x3 x4
        have x0 := HN4.out.2.at 0 (v := .slice y.sa y.s.spots.length y.sc) rfl
        have x1 := HN4.out.2.at 1 (v := vi y.s.strain) rfl
        have x2 := HN4.out.2.at 2 (v := .slice y.ta y.s.tools.length y.tc) rfl
        have x3 := HN4.out.2.at 3 (v := vi y.s.day) rfl
        have x4 := HN4.out.2.at 4 (v := .slice y.ra y.s.reads.length y.rc) rfl
        go_wp2_with fail
        refine (learn_okN ⟨y.s, sa2, sc2, ta2, tc2, ra2, rc2⟩ _ HZ2.out (few_s (y := y) rfl HFW.out) he ho).mono ?_
        rintro e w5 ⟨KB, kd, rfl, hko, hb⟩
        have HN5 := Lib.hid (And.intro (newer_trans HN4.out.1 hb) (HN4.out.2.below hb HN4.out.2.lt))
        have HK5 := Lib.hid (own_more hko HN4.out.1.size)
        clear hko
        clear hb x0 x1 x2 x3 x4
        have x0 := HN5.out.2.at 0 (v := .slice y.sa y.s.spots.length y.sc) rfl
        have x1 := HN5.out.2.at 1 (v := vi y.s.strain) rfl
        have x2 := HN5.out.2.at 2 (v := .slice y.ta y.s.tools.length y.tc) rfl
        have x3 := HN5.out.2.at 3 (v := vi y.s.day) rfl
        have x4 := HN5.out.2.at 4 (v := .slice y.ra y.s.reads.length y.rc) rfl
        go_wp2_with fail
        refine (refFault_any y _ (HOK.out.next HN5.out.1) HFW.out).mono ?_
        rintro e w6 ⟨rfl, hb⟩
        have HK6 := Lib.hid (own_below HK5.out hb)
        have HN6 := Lib.hid (And.intro (newer_trans HN5.out.1 hb) (HN5.out.2.below hb HN5.out.2.lt))
        clear hb x0 x1 x2 x3 x4
        have x0 := HN6.out.2.at 0 (v := .slice y.sa y.s.spots.length y.sc) rfl
        have x1 := HN6.out.2.at 1 (v := vi y.s.strain) rfl
        have x2 := HN6.out.2.at 2 (v := .slice y.ta y.s.tools.length y.tc) rfl
        have x3 := HN6.out.2.at 3 (v := vi y.s.day) rfl
        have x4 := HN6.out.2.at 4 (v := .slice y.ra y.s.reads.length y.rc) rfl
        go_wp2_with fail
        refine (HFL.out _ HN6.out.1).mono ?_
        rintro e w7 ⟨⟨xs, A, c, rfl, hrw, hin, hmap⟩, hb⟩
        have HN7 := Lib.hid (And.intro (newer_trans HN6.out.1 hb) (HN6.out.2.below hb HN6.out.2.lt))
        have HK7 := Lib.hid (own_below HK6.out hb)
        have hxne : xs ≠ [] := fun e => HAN.out.2 ho (by rw [← hmap, e]; rfl)
        have hpos : 0 < xs.length := List.length_pos_iff.2 hxne
        have hpos2 : ¬ xs.length = 0 := by omega
        have HLR := Lib.hid (learnR_any y xs A c w6.heap.size w7 (by have := HSP.out; omega) hrw hin hxne (by have h := HAL.out; rw [← hmap, List.length_map] at h; exact h) (fun x hx => fields_len_all (by rw [← hmap]; exact List.mem_map.2 ⟨x, hx, rfl⟩)))
        rw [hmap, HKN.out ho] at HLR
        clear hb x0 x1 x2 x3 x4 hrw hin hmap
        have x0 := HN7.out.2.at 0 (v := .slice y.sa y.s.spots.length y.sc) rfl
        have x1 := HN7.out.2.at 1 (v := vi y.s.strain) rfl
        have x2 := HN7.out.2.at 2 (v := .slice y.ta y.s.tools.length y.tc) rfl
        have x3 := HN7.out.2.at 3 (v := vi y.s.day) rfl
        have x4 := HN7.out.2.at 4 (v := .slice y.ra y.s.reads.length y.rc) rfl
        go_wp2_with fail
        refine (HLR.out).mono ?_
        rintro e w8 ⟨RB, rd, rfl, hown, hb⟩
        have HN8 := Lib.hid (newer_trans HN7.out.1 hb)
        have HO8 := Lib.hid hown
        have HK8 := Lib.hid (own_below HK7.out hb)
        clear hown hb x0 x1 x2 x3 x4 HLR
        obtain ⟨n, hn⟩ : ∃ n, n = y.s.spots.length := ⟨_, rfl⟩
        have HL : Hid ((knL y.s).length = n) := Lib.hid (by rw [hn]; exact knK_len _ _)
        have HNP := Lib.hid (show 1 ≤ n ∧ n ≤ 6 by rw [hn]; exact HSP.out)
        rw [← hn] at HO8 HK8 ⊢
        obtain ⟨kb, rfl, -⟩ := own_some HK8.out (by have := HNP.out; omega)
        obtain ⟨rb, rfl, -⟩ := own_some HO8.out (by have := HNP.out; omega)
        have HRK : Hid (Row spL 4 w8 w8.heap.size (some ⟨kb, 0, none⟩) (knL y.s)) := Lib.hid (row_of_own (enc := spL) (size := 4) (by decide) (fun _ => rfl) HK8.out)
        have HRR : Hid (Row spL 4 w8 w8.heap.size (some ⟨rb, 0, none⟩) (knL y.s)) := Lib.hid (row_of_own (enc := spL) (size := 4) (by decide) (fun _ => rfl) HO8.out)
        clear hn
        go_wp2_with fail
        try go_frame
        go_loopw [9] (fun s9 wr => ∃ k : Nat, k ≤ n ∧ s9 = vi k ∧ newer w8 wr) (fun s9 _ => n - (intOf s9).toNat)
        case atStart => exact ⟨0, Nat.zero_le _, rfl, newer_refl _⟩
        case round =>
          obtain ⟨k, hk, rfl, hnw⟩ := hrel
          have HW := Lib.hid hnw
          have hn6 := HNP.out
          by_cases hlt : k < n
          · have hkn : (k : Int) < n := by omega
            obtain ⟨p, hp⟩ : ∃ p, (knL y.s)[k]? = some p := ⟨_, List.getElem?_eq_getElem (by rw [HL.out]; exact hlt)⟩
            obtain ⟨b4, o4, e4, -, a0, a1, a2, a3⟩ := row4 HRK.out hp
            injection e4 with e4
            injection e4 with e5 e6
            subst e5 e6
            obtain ⟨b4, o4, e4, -, r0, r1, r2, r3⟩ := row4 HRR.out hp
            injection e4 with e4
            injection e4 with e5 e6
            subst e5 e6
            clear hp
            rw [Nat.zero_add] at a0 a1 a2 a3 r0 r1 r2 r3
            have a0 := keep_cell a0 HW.out
            have a1 := keep_cell a1 HW.out
            have a2 := keep_cell a2 HW.out
            have a3 := keep_cell a3 HW.out
            have r0 := keep_cell r0 HW.out
            have r1 := keep_cell r1 HW.out
            have r2 := keep_cell r2 HW.out
            have r3 := keep_cell r3 HW.out
            clear hnw
            go_wp2_with fail
            go_upto_region 17 with fail
            refine wp_words (by kernel_rfl) (region_told 17 (by kernel_rfl) (by kernel_rfl) (fun W => Below wr.heap.size wr W) newer (pickD [vIs (.slice (some ⟨kb, 0, none⟩) n kd), vIs (.int .i64 k), vIs (.pointer (some ⟨kb, k * 4, none⟩)), vIs (spV p), vIs (.slice (some ⟨rb, 0, none⟩) n rd), vIs (.int .i64 k), vIs (.pointer (some ⟨rb, k * 4, none⟩)), vIs (.pointer (some ⟨rb, k * 4, none⟩)), vIs (rgV p.x), vIs (rgV p.x), vIs (.slice (some ⟨rb, 0, none⟩) n rd), vIs (.int .i64 k), vIs (.pointer (some ⟨rb, k * 4, none⟩)), vIs (.pointer (some ⟨rb, k * 4 + 2, none⟩)), vIs (rgV p.y), vIs (rgV p.y), vIs (spV p)]) (fun h k => newer_trans h k) (pickD_stable _ ⟨vIs_st, vIs_st, vIs_st, vIs_st, vIs_st, vIs_st, vIs_st, vIs_st, vIs_st, vIs_st, vIs_st, vIs_st, vIs_st, vIs_st, vIs_st, vIs_st, vIs_st, trivial⟩) (Below.refl _ wr).drew (Below.refl _ _) ?_ ?_)
            · refine ⟨?_, ?_, ?_, ?_, ?_, ?_, ?_, ?_, ?_, ?_, ?_, ?_, ?_, ?_, ?_, ?_, ?_, trivial⟩
              · exact fun a W hG _ hO _ => kM 4 rfl (hO.slot 4 (by kernel_rfl)) rfl hG
              · exact fun a W hG _ hO _ => kM 9 rfl (hO.slot 9 (by kernel_rfl)) rfl hG
              · intro a W hG hR hO hp
                have h84 : slotOf a 84 = .slice (some ⟨kb, 0, none⟩) n kd := hp.1
                have h85 : slotOf a 85 = .int .i64 k := hp.2.1
                refine kY (v := .pointer (some ⟨kb, k * 4, none⟩)) hG rfl ?_
                simp [slotOf] at h84 h85
                simp [execOp, go_sem, h84, h85, hkn]
              · intro a W hG hR hO hp
                have h86 : slotOf a 86 = .pointer (some ⟨kb, k * 4, none⟩) := hp.1
                have c0 := keep_cell a0 hG
                have c1 := keep_cell a1 hG
                have c2 := keep_cell a2 hG
                have c3 := keep_cell a3 hG
                refine kY (v := spV p) hG rfl ?_
                simp [slotOf] at h86
                simp [execOp, go_sem, h86, c0, c1, c2, c3]
              · exact fun a W hG _ hO _ => kM 8 rfl (hO.slot 8 (by kernel_rfl)) rfl hG
              · exact fun a W hG _ hO _ => kM 9 rfl (hO.slot 9 (by kernel_rfl)) rfl hG
              · intro a W hG hR hO hp
                have h88 : slotOf a 88 = .slice (some ⟨rb, 0, none⟩) n rd := hp.1
                have h89 : slotOf a 89 = .int .i64 k := hp.2.1
                refine kY (v := .pointer (some ⟨rb, k * 4, none⟩)) hG rfl ?_
                simp [slotOf] at h88 h89
                simp [execOp, go_sem, h88, h89, hkn]
              · intro a W hG hR hO hp
                have h90 : slotOf a 90 = .pointer (some ⟨rb, k * 4, none⟩) := hp.1
                refine kY (v := .pointer (some ⟨rb, k * 4, none⟩)) hG rfl ?_
                simp [slotOf] at h90
                simp [execOp, go_sem, h90]
              · intro a W hG hR hO hp
                have h91 : slotOf a 91 = .pointer (some ⟨rb, k * 4, none⟩) := hp.1
                have c0 := keep_cell r0 hG
                have c1 := keep_cell r1 hG
                refine kY (v := rgV p.x) hG rfl ?_
                simp [slotOf] at h91
                simp [execOp, go_sem, h91, c0, c1]
              · intro a W hG hR hO hp
                have h92 : slotOf a 92 = rgV p.x := hp.1
                refine wp_enters (f := 38) (args := #[rgV p.x]) ?_ ((to_any p.x W).mono ?_)
                · simp [slotOf] at h92
                  simp [go_sem, h92]
                · rintro e w' ⟨rfl, hb⟩
                  exact ⟨_, rfl, _, rfl, rfl, hb, below_next hG hb⟩
              · exact fun a W hG _ hO _ => kM 8 rfl (hO.slot 8 (by kernel_rfl)) rfl hG
              · exact fun a W hG _ hO _ => kM 9 rfl (hO.slot 9 (by kernel_rfl)) rfl hG
              · intro a W hG hR hO hp
                have h94 : slotOf a 94 = .slice (some ⟨rb, 0, none⟩) n rd := hp.1
                have h95 : slotOf a 95 = .int .i64 k := hp.2.1
                refine kY (v := .pointer (some ⟨rb, k * 4, none⟩)) hG rfl ?_
                simp [slotOf] at h94 h95
                simp [execOp, go_sem, h94, h95, hkn]
              · intro a W hG hR hO hp
                have h96 : slotOf a 96 = .pointer (some ⟨rb, k * 4, none⟩) := hp.1
                refine kY (v := .pointer (some ⟨rb, k * 4 + 2, none⟩)) hG rfl ?_
                simp [slotOf] at h96
                simp [execOp, go_sem, h96]
              · intro a W hG hR hO hp
                have h97 : slotOf a 97 = .pointer (some ⟨rb, k * 4 + 2, none⟩) := hp.1
                have c0 := keep_cell r2 hG
                have c1 := keep_cell r3 hG
                refine kY (v := rgV p.y) hG rfl ?_
                simp [slotOf] at h97
                simp [execOp, go_sem, h97, c0, c1]
              · intro a W hG hR hO hp
                have h98 : slotOf a 98 = rgV p.y := hp.1
                refine wp_enters (f := 38) (args := #[rgV p.y]) ?_ ((to_any p.y W).mono ?_)
                · simp [slotOf] at h98
                  simp [go_sem, h98]
                · rintro e w' ⟨rfl, hb⟩
                  exact ⟨_, rfl, _, rfl, rfl, hb, below_next hG hb⟩
              · intro a W hG hR hO hp
                have h93 : slotOf a 93 = rgV p.x := hp.1
                have h99 : slotOf a 99 = rgV p.y := hp.2.1
                refine kY (v := spV p) hG rfl ?_
                simp [slotOf] at h93 h99
                simp [execOp, go_sem, h93, h99]
            · intro w9 hG hR
              rintro _ rfl _ rfl _ rfl _ rfl _ rfl _ rfl _ rfl _ rfl _ rfl _ rfl _ rfl _ rfl _ rfl _ rfl _ rfl _ rfl _ rfl
              change wpList _ _ _ _ _ _
              simp only [Act.put, List.setIfInBounds_toArray, List.set_cons_zero, List.set_cons_succ, List.drop_succ_cons, List.drop_zero]
              have HW9 := Lib.hid (newer_trans HW.out hG)
              clear hG a0 a1 a2 a3 r0 r1 r2 r3
              go_wp2_with fail
              go_roundw
              case rel => exact ⟨k + 1, by omega, by have := HNP.out; go_num, HW9.out⟩
              case measure => simp [intOf]; have := HNP.out; omega
          · have hkn : ¬ (k : Int) < n := by omega
            clear hnw
            go_wp2_with fail
            refine (awake_any _).mono ?_
            rintro e wk ⟨rfl, hb⟩
            have HK := Lib.hid (newer_trans (newer_trans HN8.out HW.out) hb)
            clear hb
            go_wp2_with fail
            go_ret
            exact ⟨rfl, HK.out⟩

end Go.Proofs.Ytpmafnifgegfbaa
