/- SlopeMargins walked: it returns true, and leaves what was there. -/
import Derived.Test.YtkenokpobbichaaAX
import Derived.Test.YtkenokpobbichaaAI
import Derived.Test.YtkenokpobbichaaAJ
namespace Go.Proofs.Ytkenokpobbichaa
open Go.RowKit Go.Shelf Go.Deep

/-- Surfaces in memory: all of a slope. -/
structure AllIn (s : Sm) (us : List Su) (A : Option Addr) (W : World) : Prop where
  row : Row suL 2 W W.heap.size A us
  ok : ∀ x ∈ us, SuOk x W
  eq : us.map suK = (allR s.sd.n s.cs.length s.sd.K).map suP
theorem AllIn.next {s : Sm} {us : List Su} {A : Option Addr} {W W' : World} (h : AllIn s us A W) (hb : newer W W') : AllIn s us A W' := ⟨(h.row.below hb).more hb.size, fun x hx => (h.ok x hx).next hb, h.eq⟩
theorem AllIn.few {s : Sm} {us : List Su} {A : Option Addr} {W : World} (h : AllIn s us A W) (hs : SdOk s.sd) : us.length ≤ 28298170368 := by
  have hcl : s.cs.length ≤ 12 := by have h1 := hs.cols; rw [sd_len] at h1; omega
  have h1 := congrArg List.length h.eq
  rw [List.length_map, List.length_map] at h1
  have h2 := allTo_few (K := s.sd.K) (i := s.cs.length) hs.beds.2 hcl hcl
  have h3 : (allR s.sd.n s.cs.length s.sd.K).length = (allTo s.sd.n s.cs.length s.sd.K s.cs.length).length := rfl
  omega
theorem all_in (s : Sm) (w : World) (hok : SmOk s w) (hs : SdOk s.sd) : Calls Try.prog 28 #[smV s] w fun e w' => ∃ us A c, e = .returned (.slice A (us : List Su).length c) ∧ AllIn s us A w' ∧ newer w w' := by
  refine (all_any s w hok hs).mono ?_
  rintro e w' ⟨⟨us, A, c, rfl, hr, hi, he⟩, hb⟩
  exact ⟨us, A, c, rfl, ⟨hr, hi.ok, he⟩, hb⟩
theorem ask_is (s : Sd) (f : Int) : askN s f = askedN s f := by
  unfold askN askedN
  cases slopeB s <;> cases inB f 0 10000 <;> rfl
theorem margin_cases (s : Sd) (f : Int) : ∃ p q : Int, marginOut s f = .tuple #[vi p, vi q] ∧ ((¬ askN s f = 0 ∧ q = askN s f ∧ p = 0) ∨ (askN s f = 0 ∧ SdOk s ∧ 0 ≤ f ∧ f ≤ 10000 ∧ ((bearsB (lowestK (refLo s) (allR s.n s.cols.length s.K) (-1)) f = false ∧ q = 10 ∧ p = 0) ∨ (bearsB (lowestK (refLo s) (allR s.n s.cols.length s.K) (-1)) f = true ∧ q = 0 ∧ p = marginS s f)))) := by
  rw [ask_is]
  by_cases ha : askedN s f = 0
  · obtain ⟨h1, h2, h3⟩ := asked_zero ha
    have hd := bears_dry h1 h2 h3
    cases hl : lowT s f (some false) with
    | none =>
      have he : enoughN s f = 0 := by unfold enoughN; rw [if_pos ha, hl]; rfl
      exact ⟨_, _, by unfold marginOut; rw [if_pos he], .inr ⟨ha, h1, h2, h3, .inr ⟨hd.2 hl, rfl, rfl⟩⟩⟩
    | some u =>
      have he : enoughN s f = 10 := by unfold enoughN; rw [if_pos ha, hl]; rfl
      refine ⟨_, _, by unfold marginOut; rw [if_neg (by rw [he]; decide)], .inr ⟨ha, h1, h2, h3, .inl ⟨?_, he, rfl⟩⟩⟩
      cases hb : bearsB (lowestK (refLo s) (allR s.n s.cols.length s.K) (-1)) f with
      | false => rfl
      | true =>
        rw [hd.1 hb] at hl
        cases hl
  · have he : enoughN s f = askedN s f := by unfold enoughN; rw [if_neg ha]
    exact ⟨_, _, by unfold marginOut; rw [if_neg (by rw [he]; exact ha)], .inl ⟨ha, he, rfl⟩⟩
set_option maxRecDepth 100000 in
set_option maxHeartbeats 4000000 in
theorem slopeMargins_walk (s : Sm) (f : Int) (w : World) (hok : SmOk s w) : Calls Try.prog 5 #[smV s, vi f] w fun e w' => e = .returned (.bool true) ∧ newer w w' := by
  have hnw := newer_allocH w (.cells (smC s) 24)
  have hxb := Whole.made w 24 (smC s)
  have H1 := Lib.hid (And.intro (hnw) (hxb))
  clear hnw hxb
  have HOK := Lib.hid hok
  have HFE := Lib.hid (few_any s _ (hok.next H1.out.1))
  clear hok
  have x0 := H1.out.2.at 0 (v := .slice s.a s.cs.length s.c) rfl
  have x1 := H1.out.2.at 1 (v := vi s.least) rfl
  cases hf : fewB s.sd with
  | false =>
    rw [hf] at HFE
    clear hf
    go_enter Try.func5, Try.ntmps5
    go_wp2_with fail
    refine (HFE.out).mono ?_
    rintro e w2 ⟨rfl, hb⟩
    have H3 := Lib.hid (And.intro ((newer_trans H1.out.1 hb)) ((H1.out.2.below hb H1.out.2.lt)))
    clear hb HFE H1 x0 x1
    go_wp2_with fail
    refine (wakes_any _).mono ?_
    rintro e w4 ⟨rfl, hb⟩
    have H5 := Lib.hid (And.intro ((newer_trans H3.out.1 hb)) ((H3.out.2.below hb H3.out.2.lt)))
    clear hb H3
    go_wp2_with fail
    go_ret
    exact ⟨rfl, H5.out.1⟩
  | true =>
    rw [hf] at HFE
    obtain ⟨few, hc15, hb8⟩ := thinS_few (few_thin hf)
    have HFW := Lib.hid few
    clear hf hc15 hb8
    obtain ⟨p, q, hm, hcase⟩ := margin_cases s.sd f
    have HM : Hid (∀ (s2 : Sm) W, s2.sd = s.sd → SmOk s2 W → Calls Try.prog 31 #[smV s2, vi f] W fun e w' => e = .returned (.tuple #[vi p, vi q]) ∧ newer W w') := Lib.hid (fun s2 W h1 h2 => by
      have h3 := margin_any s2 f W h2 (few_sd h1 few)
      rw [h1, hm] at h3
      exact h3)
    have HAK : Hid (∀ W, newer w W → Calls Try.prog 32 #[smV s, vi f] W fun e w' => e = .returned (vi (askN s.sd f)) ∧ newer W w') := Lib.hid (fun W hW => lawAsked s f W (HOK.out.next hW) few)
    obtain ⟨ak, hak⟩ : ∃ ak, ak = askN s.sd f := ⟨_, rfl⟩
    rw [← hak] at HAK hcase
    clear hm few
    rcases hcase with ⟨h1, rfl, rfl⟩ | ⟨rfl, hs, f0, f1, hcase⟩
    · have hz2 : (q == 0) = false := by rw [beq_eq_false_iff_ne]; exact h1
      have hz3 : (q != 0) = true := by simp [h1]
      clear hak
      go_enter Try.func5, Try.ntmps5
      go_wp2_with fail
      refine (HFE.out).mono ?_
      rintro e w6 ⟨rfl, hb⟩
      have H7 := Lib.hid (And.intro ((newer_trans H1.out.1 hb)) ((H1.out.2.below hb H1.out.2.lt)))
      clear hb HFE H1 x0 x1
      have x0 := H7.out.2.at 0 (v := .slice s.a s.cs.length s.c) rfl
      have x1 := H7.out.2.at 1 (v := vi s.least) rfl
      go_wp2_with fail
      refine (lawSlope s _ (HOK.out.next H7.out.1) HFW.out).mono ?_
      rintro e w8 ⟨s2, rfl, hd, hs2, hb⟩
      have HMM := Lib.hid (HM.out s2 _ hd hs2)
      have H9 := Lib.hid (And.intro ((newer_trans H7.out.1 hb)) ((H7.out.2.below hb H7.out.2.lt)))
      clear hb hd hs2 HM H7 x0 x1
      go_wp2_with fail
      refine (HMM.out).mono ?_
      rintro e w10 ⟨rfl, hb⟩
      have H11 := Lib.hid (And.intro ((newer_trans H9.out.1 hb)) ((H9.out.2.below hb H9.out.2.lt)))
      clear hb HMM H9
      have x0 := H11.out.2.at 0 (v := .slice s.a s.cs.length s.c) rfl
      have x1 := H11.out.2.at 1 (v := vi s.least) rfl
      go_wp2_with fail
      refine (HAK.out _ H11.out.1).mono ?_
      rintro e w12 ⟨rfl, hb⟩
      have H13 := Lib.hid (And.intro ((newer_trans H11.out.1 hb)) ((H11.out.2.below hb H11.out.2.lt)))
      clear hb HAK H11 x0 x1
      go_wp2_with fail
      refine (wakes_any _).mono ?_
      rintro e w14 ⟨rfl, hb⟩
      have H15 := Lib.hid (And.intro ((newer_trans H13.out.1 hb)) ((H13.out.2.below hb H13.out.2.lt)))
      clear hb H13
      go_wp2_with fail
      go_ret
      exact ⟨rfl, H15.out.1⟩
    · clear hak
      have HSD := Lib.hid hs
      have HAL : Hid (∀ W, newer w W → Calls Try.prog 28 #[smV s] W fun e w' => ∃ us A c, e = .returned (.slice A (us : List Su).length c) ∧ AllIn s us A w' ∧ newer W w') := Lib.hid (fun W hW => all_in s W (HOK.out.next hW) hs)
      obtain ⟨br, hbr⟩ : ∃ br, br = bearsB (lowestK (refLo s.sd) (allR s.sd.n s.cs.length s.sd.K) (-1)) f := ⟨_, rfl⟩
      rw [sd_len, ← hbr] at hcase
      have HBE : Hid (∀ (us : List Su) A c W, newer w W → AllIn s us A W → Calls Try.prog 33 #[smV s, .slice A us.length c, vi f] W fun e w' => e = .returned (.bool br) ∧ newer W w') := Lib.hid (fun us A c W hW h => by
        rw [hbr]
        exact bears_any s us A c (allR s.sd.n s.cs.length s.sd.K) f W (HOK.out.next hW) hs h.row h.ok h.eq (fun u hu => (all_mem (hd_ok hs false).K0).1 hu) (h.few hs))
      have HF := Lib.hid (And.intro f0 f1)
      have HBR := Lib.hid hbr
      clear hs f0 f1 hbr
      rcases hcase with ⟨rfl, rfl, rfl⟩ | ⟨rfl, rfl, hpm⟩
      · go_enter Try.func5, Try.ntmps5
        go_wp2_with fail
        refine (HFE.out).mono ?_
        rintro e w16 ⟨rfl, hb⟩
        have H17 := Lib.hid (And.intro ((newer_trans H1.out.1 hb)) ((H1.out.2.below hb H1.out.2.lt)))
        clear hb HFE H1 x0 x1
        have x0 := H17.out.2.at 0 (v := .slice s.a s.cs.length s.c) rfl
        have x1 := H17.out.2.at 1 (v := vi s.least) rfl
        go_wp2_with fail
        refine (lawSlope s _ (HOK.out.next H17.out.1) HFW.out).mono ?_
        rintro e w18 ⟨s2, rfl, hd, hs2, hb⟩
        have HMM := Lib.hid (HM.out s2 _ hd hs2)
        have H19 := Lib.hid (And.intro ((newer_trans H17.out.1 hb)) ((H17.out.2.below hb H17.out.2.lt)))
        clear hb hd hs2 HM H17 x0 x1
        go_wp2_with fail
        refine (HMM.out).mono ?_
        rintro e w20 ⟨rfl, hb⟩
        have H21 := Lib.hid (And.intro ((newer_trans H19.out.1 hb)) ((H19.out.2.below hb H19.out.2.lt)))
        clear hb HMM H19
        have x0 := H21.out.2.at 0 (v := .slice s.a s.cs.length s.c) rfl
        have x1 := H21.out.2.at 1 (v := vi s.least) rfl
        go_wp2_with fail
        refine (HAK.out _ H21.out.1).mono ?_
        rintro e w22 ⟨rfl, hb⟩
        have H23 := Lib.hid (And.intro ((newer_trans H21.out.1 hb)) ((H21.out.2.below hb H21.out.2.lt)))
        clear hb HAK H21 x0 x1
        have x0 := H23.out.2.at 0 (v := .slice s.a s.cs.length s.c) rfl
        have x1 := H23.out.2.at 1 (v := vi s.least) rfl
        go_wp2_with fail
        refine (HAL.out _ H23.out.1).mono ?_
        rintro e w24 ⟨us, A, c, rfl, hall, hb⟩
        have H25 := Lib.hid (And.intro ((newer_trans H23.out.1 hb)) (And.intro ((H23.out.2.below hb H23.out.2.lt)) (hall)))
        clear hb HAL hall H23 x0 x1
        have x0 := H25.out.2.1.at 0 (v := .slice s.a s.cs.length s.c) rfl
        have x1 := H25.out.2.1.at 1 (v := vi s.least) rfl
        go_wp2_with fail
        refine (HBE.out us A c _ H25.out.1 H25.out.2.2).mono ?_
        rintro e w26 ⟨rfl, hb⟩
        have H27 := Lib.hid (And.intro ((newer_trans H25.out.1 hb)) (And.intro ((H25.out.2.1.below hb H25.out.2.1.lt)) ((H25.out.2.2.next hb))))
        clear hb HBE H25 x0 x1
        go_wp2_with fail
        refine (wakes_any _).mono ?_
        rintro e w28 ⟨rfl, hb⟩
        have H29 := Lib.hid (And.intro ((newer_trans H27.out.1 hb)) (And.intro ((H27.out.2.1.below hb H27.out.2.1.lt)) ((H27.out.2.2.next hb))))
        clear hb H27
        go_wp2_with fail
        go_ret
        exact ⟨rfl, H29.out.1⟩
      · have HMR : Hid (∀ (us : List Su) A c W, newer w W → AllIn s us A W → Calls Try.prog 34 #[smV s, .slice A us.length c, vi f] W fun e w' => e = .returned (vi p) ∧ newer W w') := Lib.hid (fun us A c W hW h => by
          rw [hpm]
          exact marginR_any s us A c f W (HOK.out.next hW) HSD.out h.row h.ok h.eq (h.few HSD.out) HF.out.1 HF.out.2 HBR.out.symm)
        clear hpm
        go_enter Try.func5, Try.ntmps5
        go_wp2_with fail
        refine (HFE.out).mono ?_
        rintro e w30 ⟨rfl, hb⟩
        have H31 := Lib.hid (And.intro ((newer_trans H1.out.1 hb)) ((H1.out.2.below hb H1.out.2.lt)))
        clear hb HFE H1 x0 x1
        have x0 := H31.out.2.at 0 (v := .slice s.a s.cs.length s.c) rfl
        have x1 := H31.out.2.at 1 (v := vi s.least) rfl
        go_wp2_with fail
        refine (lawSlope s _ (HOK.out.next H31.out.1) HFW.out).mono ?_
        rintro e w32 ⟨s2, rfl, hd, hs2, hb⟩
        have HMM := Lib.hid (HM.out s2 _ hd hs2)
        have H33 := Lib.hid (And.intro ((newer_trans H31.out.1 hb)) ((H31.out.2.below hb H31.out.2.lt)))
        clear hb hd hs2 HM H31 x0 x1
        go_wp2_with fail
        refine (HMM.out).mono ?_
        rintro e w34 ⟨rfl, hb⟩
        have H35 := Lib.hid (And.intro ((newer_trans H33.out.1 hb)) ((H33.out.2.below hb H33.out.2.lt)))
        clear hb HMM H33
        have x0 := H35.out.2.at 0 (v := .slice s.a s.cs.length s.c) rfl
        have x1 := H35.out.2.at 1 (v := vi s.least) rfl
        go_wp2_with fail
        refine (HAK.out _ H35.out.1).mono ?_
        rintro e w36 ⟨rfl, hb⟩
        have H37 := Lib.hid (And.intro ((newer_trans H35.out.1 hb)) ((H35.out.2.below hb H35.out.2.lt)))
        clear hb HAK H35 x0 x1
        have x0 := H37.out.2.at 0 (v := .slice s.a s.cs.length s.c) rfl
        have x1 := H37.out.2.at 1 (v := vi s.least) rfl
        go_wp2_with fail
        refine (HAL.out _ H37.out.1).mono ?_
        rintro e w38 ⟨us, A, c, rfl, hall, hb⟩
        have H39 := Lib.hid (And.intro ((newer_trans H37.out.1 hb)) (And.intro ((H37.out.2.below hb H37.out.2.lt)) (hall)))
        clear hb HAL hall H37 x0 x1
        have x0 := H39.out.2.1.at 0 (v := .slice s.a s.cs.length s.c) rfl
        have x1 := H39.out.2.1.at 1 (v := vi s.least) rfl
        go_wp2_with fail
        refine (HBE.out us A c _ H39.out.1 H39.out.2.2).mono ?_
        rintro e w40 ⟨rfl, hb⟩
        have H41 := Lib.hid (And.intro ((newer_trans H39.out.1 hb)) (And.intro ((H39.out.2.1.below hb H39.out.2.1.lt)) ((H39.out.2.2.next hb))))
        clear hb HBE H39 x0 x1
        have x0 := H41.out.2.1.at 0 (v := .slice s.a s.cs.length s.c) rfl
        have x1 := H41.out.2.1.at 1 (v := vi s.least) rfl
        go_wp2_with fail
        refine (HMR.out us A c _ H41.out.1 H41.out.2.2).mono ?_
        rintro e w42 ⟨rfl, hb⟩
        have H43 := Lib.hid (And.intro ((newer_trans H41.out.1 hb)) (And.intro ((H41.out.2.1.below hb H41.out.2.1.lt)) ((H41.out.2.2.next hb))))
        clear hb HMR H41 x0 x1
        go_wp2_with fail
        refine (wakes_any _).mono ?_
        rintro e w44 ⟨rfl, hb⟩
        have H45 := Lib.hid (And.intro ((newer_trans H43.out.1 hb)) (And.intro ((H43.out.2.1.below hb H43.out.2.1.lt)) ((H43.out.2.2.next hb))))
        clear hb H43
        go_wp2_with fail
        go_ret
        exact ⟨rfl, H45.out.1⟩

end Go.Proofs.Ytkenokpobbichaa
