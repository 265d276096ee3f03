/- RadarTurns walked: it returns true, and leaves what was there. -/
import Derived.Test.YtpmafnifgegfbaaBM
import Derived.Test.YtpmafnifgegfbaaBU
import Derived.Test.YtpmafnifgegfbaaAL2
namespace Go.Proofs.Ytpmafnifgegfbaa
open Go.RowKit Go.Shelf Go.Deep

theorem fields_bd {s : Sd} (h : SdOk s) {f : List Mv} (hf : f ∈ allR s) : f.length = s.spots.length ∧ ∀ m ∈ f, (-30 ≤ m.1 ∧ m.1 ≤ 30) ∧ -30 ≤ m.2 ∧ m.2 ≤ 30 := by
  have h1 := (Bool.and_eq_true _ _ ▸ mem_all.1 hf : isFieldB s f = true ∧ waysB s f = true).1
  obtain ⟨hl, hi⟩ := isField_iff.1 h1
  refine ⟨hl, fun m hm => ?_⟩
  obtain ⟨i, hi1, e⟩ := List.getElem_of_mem hm
  have hm2 : f[i]? = some m := by rw [List.getElem?_eq_getElem hi1, e]
  have h2 := hi.bd h (i := i) (by omega)
  rwa [fnL_at hm2] at h2
theorem listsR_ne {s : Sd} {f : List Mv} (hw : ∀ (j : Nat) (t : Tl), s.tools[j]? = some t → waysN s j t (fnL f t.spot.toNat) ≠ []) : ∀ (r tool : Nat) (b : List Int), tool + r ≤ s.tools.length → listsR s f r tool b ≠ []
  | 0, _, b, _ => by simp [listsR]
  | r + 1, tool, b, h => by
    obtain ⟨t, ht⟩ : ∃ t, s.tools[tool]? = some t := ⟨_, List.getElem?_eq_getElem (by omega)⟩
    rw [listsR, ht]
    show (if t.turn = 0 then _ else _) ≠ []
    split
    · exact listsR_ne hw r _ b (by omega)
    · intro e
      obtain ⟨k, hk⟩ := List.exists_mem_of_ne_nil _ (hw tool t ht)
      exact listsR_ne hw r (tool + 1) (b ++ [k]) (by omega) (List.flatMap_eq_nil_iff.1 e k hk)
theorem turnsR_ne {s : Sd} {all : List (List Mv)} (hne : all ≠ []) (ha : ∀ f ∈ all, f ∈ allR s) : turnsR s all ≠ [] := by
  obtain ⟨f, hf⟩ := List.exists_mem_of_ne_nil _ hne
  have h1 := (Bool.and_eq_true _ _ ▸ mem_all.1 (ha f hf) : isFieldB s f = true ∧ waysB s f = true).2
  obtain ⟨l, hl⟩ := List.exists_mem_of_ne_nil _ (listsR_ne (s := s) (f := f) (fun j t ht e => by
    have h2 := List.all_eq_true.1 h1 j (List.mem_range.2 (List.getElem?_eq_some_iff.1 ht).1)
    rw [ht] at h2
    simp [e] at h2) s.tools.length 0 [] (by omega))
  exact List.ne_nil_of_mem (mem_turns.2 ⟨f, hf, hl⟩)
theorem turns_none {s : Sd} (h : SdOk s) (ha : allR s = []) : turnE s = 9 ∧ turnLs s = [] := by
  have e : turnsN s = [] := by rw [← turns_is h, ha]; rfl
  rcases turn_three h with ⟨_, _, h3⟩ | ⟨h1, h2, _⟩ | ⟨_, _, h3, _⟩
  · rw [e] at h3; simp at h3
  · exact ⟨h1, h2⟩
  · exact absurd e h3
theorem turns_some {s : Sd} (h : SdOk s) (ha : allR s ≠ []) : (turnE s = 3 ∧ turnLs s = [] ∧ 60 < (turnsN s).length) ∨ (turnE s = 0 ∧ turnLs s = turnsN s ∧ (turnsN s).length ≤ 60) := by
  have e : turnsN s ≠ [] := by rw [← turns_is h]; exact turnsR_ne ha fun f hf => hf
  rcases turn_three h with h1 | ⟨_, _, h3⟩ | ⟨h1, h2, _, h4⟩
  · exact .inl h1
  · exact absurd h3 e
  · exact .inr ⟨h1, h2, h4⟩
theorem turns_not (y : Sm) (w : World) (hok : SmOk y w) (few : SmFew y) (v : Int) (hE : turnE y.s = v) (hL : turnLs y.s = []) : Calls Try.prog 32 #[smV y] w fun e w' => ∃ A c, e = .returned (.tuple #[.slice A 0 c, vi v]) ∧ newer w w' := by
  refine (turns_all y w hok few).mono ?_
  rintro e w' ⟨xs, A, c, rfl, h1, _, h3⟩
  rw [hL, List.map_eq_nil_iff] at h1
  subst h1
  exact ⟨A, c, by rw [hE]; rfl, h3⟩
theorem turns_yes (y : Sm) (w : World) (hok : SmOk y w) (few : SmFew y) (hE : turnE y.s = 0) : Calls Try.prog 32 #[smV y] w fun e w' => ∃ (xs : List Ln) (A : Option Addr) (c : Nat), e = .returned (.tuple #[.slice A xs.length c, vi 0]) ∧ xs.map (·.l) = turnLs y.s ∧ LlOk xs A w' ∧ newer w w' := by
  refine (turns_all y w hok few).mono ?_
  rintro e w' ⟨xs, A, c, rfl, h1, h2, h3⟩
  exact ⟨xs, A, c, by rw [hE], h1, h2.ok, h3⟩
/-- The reference's Turns of all fields that agree. -/
theorem turnsR_all (y : Sm) (xs : List Fl) (A : Option Addr) (c B0 : Nat) (w : World) (hok : SmOk y w) (hs : SdOk y.s) (h3 : y.s.tools.length ≤ 3) (hr : Row flL 1 w w.heap.size A xs) (hin : FlIn B0 xs w) (hn : (allR y.s).length ≤ 5000000) (hm : xs.map (·.f) = allR y.s) : Calls Try.prog 34 #[smV y, .slice A xs.length c] w fun e w' => ∃ (us : List Ln) (B : Option Addr) (d : Nat), e = .returned (.slice B us.length d) ∧ LlOk us B w' ∧ us.map (·.l) = turnsN y.s ∧ newer w w' := by
  have hb : ∀ x ∈ xs, x.f ∈ allR y.s := fun x hx => by rw [← hm]; exact List.mem_map.2 ⟨x, hx, rfl⟩
  refine (turnsR_any y xs A c B0 w hok hs h3 hr hin (by rw [← hm, List.length_map] at hn; exact hn) (fun x hx => (fields_bd hs (hb x hx)).1) (fun x hx => (fields_bd hs (hb x hx)).2)).mono ?_
  rintro e w' ⟨us, B, d, rfl, h1, h2, h4⟩
  exact ⟨us, B, d, rfl, h1, by rw [h2, hm, turns_is hs], h4⟩
set_option maxRecDepth 100000 in
set_option maxHeartbeats 8000000 in
theorem radarTurns_walk (y : Sm) (w : World) (hok : SmOk y w) : Calls Try.prog 4 #[smV y] w fun e w' => e = .returned (.bool true) ∧ newer w w' := by
  have hnw := newer_allocH w (.cells (smC y) 26)
  have hxb := Whole.made w 26 (smC y)
  have HFE := Lib.hid (few_any y _ (hok.next hnw))
  have HN0 := Lib.hid (And.intro hnw hxb)
  have HOK := Lib.hid hok
  have x0 := hxb.at 0 (v := .slice y.sa y.s.spots.length y.sc) rfl
  have x1 := hxb.at 1 (v := vi y.s.strain) rfl
  have x2 := hxb.at 2 (v := .slice y.ta y.s.tools.length y.tc) rfl
  have x3 := hxb.at 3 (v := vi y.s.day) rfl
  have x4 := hxb.at 4 (v := .slice y.ra y.s.reads.length y.rc) rfl
  clear hok hnw hxb
  go_enter Try.func4, Try.ntmps4
  go_wp2_with fail
  refine (HFE.out).mono ?_
  rintro e w1 ⟨b, rfl, hfb, hb⟩
  have HN1 := Lib.hid (And.intro (newer_trans HN0.out.1 hb) (HN0.out.2.below hb HN0.out.2.lt))
  clear hb x0 x1 x2 x3 x4 HFE HN0
  have x0 := HN1.out.2.at 0 (v := .slice y.sa y.s.spots.length y.sc) rfl
  have x1 := HN1.out.2.at 1 (v := vi y.s.strain) rfl
  have x2 := HN1.out.2.at 2 (v := .slice y.ta y.s.tools.length y.tc) rfl
  have x3 := HN1.out.2.at 3 (v := vi y.s.day) rfl
  have x4 := HN1.out.2.at 4 (v := .slice y.ra y.s.reads.length y.rc) rfl
  cases b with
  | false =>
    clear hfb x0 x1 x2 x3 x4
    go_wp2_with fail
    refine (awake_any _).mono ?_
    rintro e wk ⟨rfl, hb⟩
    have HK := Lib.hid (newer_trans (HN1.out.1) hb)
    clear hb
    go_wp2_with fail
    go_ret
    exact ⟨rfl, HK.out⟩
  | true =>
    obtain ⟨hth, h3⟩ := hfb rfl
    have HFW := Lib.hid (thin_few hth).1
    clear hth hfb
    by_cases he : errN y.s = 0
    case neg =>
      have HE : Hid (turnE y.s = errN y.s ∧ turnLs y.s = []) := Lib.hid (by
        have h1 : turnE y.s = errN y.s := by unfold turnE; rw [if_neg he]
        exact ⟨h1, by unfold turnLs; rw [if_neg (by rw [h1]; exact he)]⟩)
      clear h3
      go_wp2_with fail
      refine (survey_any y _ (HOK.out.next HN1.out.1) HFW.out).mono ?_
      rintro e w2 ⟨sa1, sc1, ta1, tc1, ra1, rc1, rfl, ho1, hb⟩
      have HN2 := Lib.hid (And.intro (newer_trans HN1.out.1 hb) (HN1.out.2.below hb HN1.out.2.lt))
      have HZ1 := Lib.hid ho1.ok
      clear ho1
      clear hb x0 x1 x2 x3 x4
      have x0 := HN2.out.2.at 0 (v := .slice y.sa y.s.spots.length y.sc) rfl
      have x1 := HN2.out.2.at 1 (v := vi y.s.strain) rfl
      have x2 := HN2.out.2.at 2 (v := .slice y.ta y.s.tools.length y.tc) rfl
      have x3 := HN2.out.2.at 3 (v := vi y.s.day) rfl
      have x4 := HN2.out.2.at 4 (v := .slice y.ra y.s.reads.length y.rc) rfl
      go_wp2_with fail
      refine (turns_not ⟨y.s, sa1, sc1, ta1, tc1, ra1, rc1⟩ _ HZ1.out (few_s (y := y) rfl HFW.out) (errN y.s) HE.out.1 HE.out.2).mono ?_
      rintro e w3 ⟨A, c, rfl, hb⟩
      have HN3 := Lib.hid (And.intro (newer_trans HN2.out.1 hb) (HN2.out.2.below hb HN2.out.2.lt))
      clear hb x0 x1 x2 x3 x4
      have x0 := HN3.out.2.at 0 (v := .slice y.sa y.s.spots.length y.sc) rfl
      have x1 := HN3.out.2.at 1 (v := vi y.s.strain) rfl
      have x2 := HN3.out.2.at 2 (v := .slice y.ta y.s.tools.length y.tc) rfl
      have x3 := HN3.out.2.at 3 (v := vi y.s.day) rfl
      have x4 := HN3.out.2.at 4 (v := .slice y.ra y.s.reads.length y.rc) rfl
      go_wp2_with fail
      refine (refFault_any y _ (HOK.out.next HN3.out.1) HFW.out).mono ?_
      rintro e w4 ⟨rfl, hb⟩
      have HN4 := Lib.hid (And.intro (newer_trans HN3.out.1 hb) (HN3.out.2.below hb HN3.out.2.lt))
      clear hb x0 x1 x2 x3 x4
      have x0 := HN4.out.2.at 0 (v := .slice y.sa y.s.spots.length y.sc) rfl
      have x1 := HN4.out.2.at 1 (v := vi y.s.strain) rfl
      have x2 := HN4.out.2.at 2 (v := .slice y.ta y.s.tools.length y.tc) rfl
      have x3 := HN4.out.2.at 3 (v := vi y.s.day) rfl
      have x4 := HN4.out.2.at 4 (v := .slice y.ra y.s.reads.length y.rc) rfl
      clear x0 x1 x2 x3 x4
      go_wp2_with fail
      refine (awake_any _).mono ?_
      rintro e wk ⟨rfl, hb⟩
      have HK := Lib.hid (newer_trans (HN4.out.1) hb)
      clear hb
      go_wp2_with fail
      go_ret
      exact ⟨rfl, HK.out⟩
    case pos =>
      have h3s := (h3 he).1
      have HT3 := Lib.hid (h3 he).2
      have hsd := err_iff.1 he
      have HSD := Lib.hid hsd
      have hf0 := fields_any y hsd h3s y.s.spots.length [] none 0
      have HFL : Hid (∀ W, newer w W → Calls Try.prog 33 #[smV y, .slice none 0 0] W fun e w' => (∃ (xs : List Fl) (A : Option Addr) (c : Nat), e = .returned (.slice A xs.length c) ∧ Row flL 1 w' w'.heap.size A xs ∧ FlIn W.heap.size xs w' ∧ xs.map (·.f) = allR y.s) ∧ newer W w') := Lib.hid (fun W hW => hf0 W (HOK.out.next hW) (fun h => absurd rfl h) (by simp) (fun m hm => by simp at hm))
      have HAL : Hid ((allR y.s).length ≤ 5000000) := Lib.hid (Nat.le_trans (fields_len hsd (A := agreesB y.s) y.s.spots.length []) (Nat.le_trans (Nat.pow_le_pow_right (by decide) h3s) (by decide)))
      clear hf0 h3s h3
      by_cases ha : allR y.s = []
      · have HE := Lib.hid (turns_none hsd ha)
        have HA := Lib.hid ha
        clear hsd ha
        go_wp2_with fail
        refine (survey_any y _ (HOK.out.next HN1.out.1) HFW.out).mono ?_
        rintro e w2 ⟨sa1, sc1, ta1, tc1, ra1, rc1, rfl, ho1, hb⟩
        have HN2 := Lib.hid (And.intro (newer_trans HN1.out.1 hb) (HN1.out.2.below hb HN1.out.2.lt))
        have HZ1 := Lib.hid ho1.ok
        clear ho1
        clear hb x0 x1 x2 x3 x4
        have x0 := HN2.out.2.at 0 (v := .slice y.sa y.s.spots.length y.sc) rfl
        have x1 := HN2.out.2.at 1 (v := vi y.s.strain) rfl
        have x2 := HN2.out.2.at 2 (v := .slice y.ta y.s.tools.length y.tc) rfl
        have x3 := HN2.out.2.at 3 (v := vi y.s.day) rfl
        have x4 := HN2.out.2.at 4 (v := .slice y.ra y.s.reads.length y.rc) rfl
        go_wp2_with fail
        refine (turns_not ⟨y.s, sa1, sc1, ta1, tc1, ra1, rc1⟩ _ HZ1.out (few_s (y := y) rfl HFW.out) 9 HE.out.1 HE.out.2).mono ?_
        rintro e w3 ⟨A, c, rfl, hb⟩
        have HN3 := Lib.hid (And.intro (newer_trans HN2.out.1 hb) (HN2.out.2.below hb HN2.out.2.lt))
        clear hb x0 x1 x2 x3 x4
        have x0 := HN3.out.2.at 0 (v := .slice y.sa y.s.spots.length y.sc) rfl
        have x1 := HN3.out.2.at 1 (v := vi y.s.strain) rfl
        have x2 := HN3.out.2.at 2 (v := .slice y.ta y.s.tools.length y.tc) rfl
        have x3 := HN3.out.2.at 3 (v := vi y.s.day) rfl
        have x4 := HN3.out.2.at 4 (v := .slice y.ra y.s.reads.length y.rc) rfl
        go_wp2_with fail
        refine (refFault_any y _ (HOK.out.next HN3.out.1) HFW.out).mono ?_
        rintro e w4 ⟨rfl, hb⟩
        have HN4 := Lib.hid (And.intro (newer_trans HN3.out.1 hb) (HN3.out.2.below hb HN3.out.2.lt))
        clear hb x0 x1 x2 x3 x4
        have x0 := HN4.out.2.at 0 (v := .slice y.sa y.s.spots.length y.sc) rfl
        have x1 := HN4.out.2.at 1 (v := vi y.s.strain) rfl
        have x2 := HN4.out.2.at 2 (v := .slice y.ta y.s.tools.length y.tc) rfl
        have x3 := HN4.out.2.at 3 (v := vi y.s.day) rfl
        have x4 := HN4.out.2.at 4 (v := .slice y.ra y.s.reads.length y.rc) rfl
        go_wp2_with fail
        refine (HFL.out _ HN4.out.1).mono ?_
        rintro e w5 ⟨⟨xs, A, c, rfl, -, -, hmap⟩, hb⟩
        rw [HA.out, List.map_eq_nil_iff] at hmap
        subst hmap
        have HN5 := Lib.hid (newer_trans HN4.out.1 hb)
        clear hb x0 x1 x2 x3 x4
        go_wp2_with fail
        refine (awake_any _).mono ?_
        rintro e wk ⟨rfl, hb⟩
        have HK := Lib.hid (newer_trans (HN5.out) hb)
        clear hb
        go_wp2_with fail
        go_ret
        exact ⟨rfl, HK.out⟩
      · have HA := Lib.hid ha
        rcases turns_some hsd ha with hE | hE
        · have HE := Lib.hid hE
          clear hsd ha hE
          go_wp2_with fail
          refine (survey_any y _ (HOK.out.next HN1.out.1) HFW.out).mono ?_
          rintro e w2 ⟨sa1, sc1, ta1, tc1, ra1, rc1, rfl, ho1, hb⟩
          have HN2 := Lib.hid (And.intro (newer_trans HN1.out.1 hb) (HN1.out.2.below hb HN1.out.2.lt))
          have HZ1 := Lib.hid ho1.ok
          clear ho1
          clear hb x0 x1 x2 x3 x4
          have x0 := HN2.out.2.at 0 (v := .slice y.sa y.s.spots.length y.sc) rfl
          have x1 := HN2.out.2.at 1 (v := vi y.s.strain) rfl
          have x2 := HN2.out.2.at 2 (v := .slice y.ta y.s.tools.length y.tc) rfl
          have x3 := HN2.out.2.at 3 (v := vi y.s.day) rfl
          have x4 := HN2.out.2.at 4 (v := .slice y.ra y.s.reads.length y.rc) rfl
          go_wp2_with fail
          refine (turns_not ⟨y.s, sa1, sc1, ta1, tc1, ra1, rc1⟩ _ HZ1.out (few_s (y := y) rfl HFW.out) 3 HE.out.1 HE.out.2.1).mono ?_
          rintro e w3 ⟨A, c, rfl, hb⟩
          have HN3 := Lib.hid (And.intro (newer_trans HN2.out.1 hb) (HN2.out.2.below hb HN2.out.2.lt))
          clear hb x0 x1 x2 x3 x4
          have x0 := HN3.out.2.at 0 (v := .slice y.sa y.s.spots.length y.sc) rfl
          have x1 := HN3.out.2.at 1 (v := vi y.s.strain) rfl
          have x2 := HN3.out.2.at 2 (v := .slice y.ta y.s.tools.length y.tc) rfl
          have x3 := HN3.out.2.at 3 (v := vi y.s.day) rfl
          have x4 := HN3.out.2.at 4 (v := .slice y.ra y.s.reads.length y.rc) rfl
          go_wp2_with fail
          refine (refFault_any y _ (HOK.out.next HN3.out.1) HFW.out).mono ?_
          rintro e w4 ⟨rfl, hb⟩
          have HN4 := Lib.hid (And.intro (newer_trans HN3.out.1 hb) (HN3.out.2.below hb HN3.out.2.lt))
          clear hb x0 x1 x2 x3 x4
          have x0 := HN4.out.2.at 0 (v := .slice y.sa y.s.spots.length y.sc) rfl
          have x1 := HN4.out.2.at 1 (v := vi y.s.strain) rfl
          have x2 := HN4.out.2.at 2 (v := .slice y.ta y.s.tools.length y.tc) rfl
          have x3 := HN4.out.2.at 3 (v := vi y.s.day) rfl
          have x4 := HN4.out.2.at 4 (v := .slice y.ra y.s.reads.length y.rc) rfl
          go_wp2_with fail
          refine (HFL.out _ HN4.out.1).mono ?_
          rintro e w5 ⟨⟨fs, FA, fc, rfl, hrw, hfi, hmap⟩, hb⟩
          have HN5 := Lib.hid (And.intro (newer_trans HN4.out.1 hb) (HN4.out.2.below hb HN4.out.2.lt))
          have HB5 := Lib.hid hb
          have HTR := Lib.hid (turnsR_all y fs FA fc _ w5 (HOK.out.next HN5.out.1) HSD.out HT3.out hrw hfi HAL.out hmap)
          have hpos : 0 < fs.length := List.length_pos_iff.2 (fun e => HA.out (by rw [← hmap, e]; rfl))
          have hpos2 : ¬ fs.length = 0 := by omega
          clear hb x0 x1 x2 x3 x4 hrw hfi hmap
          have x0 := HN5.out.2.at 0 (v := .slice y.sa y.s.spots.length y.sc) rfl
          have x1 := HN5.out.2.at 1 (v := vi y.s.strain) rfl
          have x2 := HN5.out.2.at 2 (v := .slice y.ta y.s.tools.length y.tc) rfl
          have x3 := HN5.out.2.at 3 (v := vi y.s.day) rfl
          have x4 := HN5.out.2.at 4 (v := .slice y.ra y.s.reads.length y.rc) rfl
          go_wp2_with fail
          refine (HTR.out).mono ?_
          rintro e w6 ⟨us, UB, ud, rfl, hul, hum, hb⟩
          have HN6 := Lib.hid (newer_trans HN5.out.1 hb)
          have h60 : (60 : Int) < us.length := by
            have h1 := congrArg List.length hum
            rw [List.length_map] at h1
            have := HE.out.2.2
            omega
          clear hb x0 x1 x2 x3 x4 hul hum HTR
          go_wp2_with fail
          refine (awake_any _).mono ?_
          rintro e wk ⟨rfl, hb⟩
          have HK := Lib.hid (newer_trans (HN6.out) hb)
          clear hb
          go_wp2_with fail
          go_ret
          exact ⟨rfl, HK.out⟩
        · have HE := Lib.hid hE
          clear hsd ha hE
          go_wp2_with fail
          refine (survey_any y _ (HOK.out.next HN1.out.1) HFW.out).mono ?_
          rintro e w2 ⟨sa1, sc1, ta1, tc1, ra1, rc1, rfl, ho1, hb⟩
          have HN2 := Lib.hid (And.intro (newer_trans HN1.out.1 hb) (HN1.out.2.below hb HN1.out.2.lt))
          have HZ1 := Lib.hid ho1.ok
          clear ho1
          clear hb x0 x1 x2 x3 x4
          have x0 := HN2.out.2.at 0 (v := .slice y.sa y.s.spots.length y.sc) rfl
          have x1 := HN2.out.2.at 1 (v := vi y.s.strain) rfl
          have x2 := HN2.out.2.at 2 (v := .slice y.ta y.s.tools.length y.tc) rfl
          have x3 := HN2.out.2.at 3 (v := vi y.s.day) rfl
          have x4 := HN2.out.2.at 4 (v := .slice y.ra y.s.reads.length y.rc) rfl
          go_wp2_with fail
          refine (turns_yes ⟨y.s, sa1, sc1, ta1, tc1, ra1, rc1⟩ _ HZ1.out (few_s (y := y) rfl HFW.out) HE.out.1).mono ?_
          rintro e w3 ⟨xs, A, c, rfl, hxm, hxo, hb⟩
          have HN3 := Lib.hid (And.intro (newer_trans HN2.out.1 hb) (HN2.out.2.below hb HN2.out.2.lt))
          have HX3 := Lib.hid hxo
          have HXM := Lib.hid hxm
          clear hxo hxm
          clear hb x0 x1 x2 x3 x4
          have x0 := HN3.out.2.at 0 (v := .slice y.sa y.s.spots.length y.sc) rfl
          have x1 := HN3.out.2.at 1 (v := vi y.s.strain) rfl
          have x2 := HN3.out.2.at 2 (v := .slice y.ta y.s.tools.length y.tc) rfl
          have x3 := HN3.out.2.at 3 (v := vi y.s.day) rfl
          have x4 := HN3.out.2.at 4 (v := .slice y.ra y.s.reads.length y.rc) rfl
          go_wp2_with fail
          refine (refFault_any y _ (HOK.out.next HN3.out.1) HFW.out).mono ?_
          rintro e w4 ⟨rfl, hb⟩
          have HN4 := Lib.hid (And.intro (newer_trans HN3.out.1 hb) (HN3.out.2.below hb HN3.out.2.lt))
          have HX4 := Lib.hid (HX3.out.next hb)
          clear hb x0 x1 x2 x3 x4
          have x0 := HN4.out.2.at 0 (v := .slice y.sa y.s.spots.length y.sc) rfl
          have x1 := HN4.out.2.at 1 (v := vi y.s.strain) rfl
          have x2 := HN4.out.2.at 2 (v := .slice y.ta y.s.tools.length y.tc) rfl
          have x3 := HN4.out.2.at 3 (v := vi y.s.day) rfl
          have x4 := HN4.out.2.at 4 (v := .slice y.ra y.s.reads.length y.rc) rfl
          go_wp2_with fail
          refine (HFL.out _ HN4.out.1).mono ?_
          rintro e w5 ⟨⟨fs, FA, fc, rfl, hrw, hfi, hmap⟩, hb⟩
          have HN5 := Lib.hid (And.intro (newer_trans HN4.out.1 hb) (HN4.out.2.below hb HN4.out.2.lt))
          have HB5 := Lib.hid hb
          have HTR := Lib.hid (turnsR_all y fs FA fc _ w5 (HOK.out.next HN5.out.1) HSD.out HT3.out hrw hfi HAL.out hmap)
          have hpos : 0 < fs.length := List.length_pos_iff.2 (fun e => HA.out (by rw [← hmap, e]; rfl))
          have hpos2 : ¬ fs.length = 0 := by omega
          clear hb x0 x1 x2 x3 x4 hrw hfi hmap
          have x0 := HN5.out.2.at 0 (v := .slice y.sa y.s.spots.length y.sc) rfl
          have x1 := HN5.out.2.at 1 (v := vi y.s.strain) rfl
          have x2 := HN5.out.2.at 2 (v := .slice y.ta y.s.tools.length y.tc) rfl
          have x3 := HN5.out.2.at 3 (v := vi y.s.day) rfl
          have x4 := HN5.out.2.at 4 (v := .slice y.ra y.s.reads.length y.rc) rfl
          go_wp2_with fail
          refine (HTR.out).mono ?_
          rintro e w6 ⟨us, UB, ud, rfl, hul, hum, hb⟩
          have HN6 := Lib.hid (newer_trans HN5.out.1 hb)
          have HX6 := Lib.hid (HX4.out.next (newer_trans HB5.out hb))
          have h60 : ¬ (60 : Int) < us.length := by
            have h1 := congrArg List.length hum
            rw [List.length_map] at h1
            have := HE.out.2.2
            omega
          have hxl : ∀ l ∈ turnsN y.s, l.length ≤ 1000 := fun l hl => by rw [turnsN_len HSD.out hl]; have h1 := turnN_le y.s.tools; have h2 := HT3.out; omega
          have HTT := Lib.hid (turns_any xs us A UB c ud w6 (by have h1 := congrArg List.length HXM.out; rw [List.length_map, HE.out.2.1] at h1; have := HE.out.2.2; omega) (fun x hx => hxl _ (by rw [← HE.out.2.1, ← HXM.out]; exact List.mem_map.2 ⟨x, hx, rfl⟩)) (fun x hx => hxl _ (by rw [← hum]; exact List.mem_map.2 ⟨x, hx, rfl⟩)) HX6.out hul)
          rw [HXM.out, HE.out.2.1, hum, decide_eq_true (rfl : turnsN y.s = turnsN y.s)] at HTT
          clear hb x0 x1 x2 x3 x4 hul hum HTR hxl
          go_wp2_with fail
          refine (HTT.out).mono ?_
          rintro e w7 ⟨rfl, hb⟩
          have HN7 := Lib.hid (newer_trans HN6.out hb)
          clear hb HTT
          go_wp2_with fail
          refine (awake_any _).mono ?_
          rintro e wk ⟨rfl, hb⟩
          have HK := Lib.hid (newer_trans (HN7.out) hb)
          clear hb
          go_wp2_with fail
          go_ret
          exact ⟨rfl, HK.out⟩

end Go.Proofs.Ytpmafnifgegfbaa
