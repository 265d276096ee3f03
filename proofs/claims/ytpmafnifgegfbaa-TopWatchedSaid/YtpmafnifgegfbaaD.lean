/- The error of a survey. -/
import Derived.Test.YtpmafnifgegfbaaC
namespace Go.Proofs.Ytpmafnifgegfbaa
open Go.RowKit Go.Deep

/-- No list of a survey is very long. -/
structure SmFew (y : Sm) : Prop where
  sp : y.s.spots.length ≤ 1000
  tl : y.s.tools.length ≤ 1000
  rd : y.s.reads.length ≤ 1000
set_option maxRecDepth 100000 in
set_option maxHeartbeats 2000000 in
theorem check_any (y : Sm) (w : World) (hok : SmOk y w) (few : SmFew y) : Calls Try.prog 60 #[smV y] w fun e w' => e = .returned (vi (errN y.s)) ∧ newer w w' := by
  have hnw := newer_allocH w (.cells (smC y) 40)
  have hbx := Whole.made w 40 (smC y)
  have HOK := Lib.hid hok
  have HF := Lib.hid few
  obtain ⟨e, he⟩ : ∃ e, e = errN y.s := ⟨_, rfl⟩
  rw [← he]
  unfold errN at he
  obtain ⟨q1, h1⟩ : ∃ q, q = inB y.s.strain 0 60 := ⟨_, rfl⟩
  have C1 := Lib.hid (fun W => within_any y.s.strain 0 60 W)
  rw [← h1] at C1 he
  obtain ⟨q2, h2⟩ : ∃ q, q = inB y.s.day 0 60 := ⟨_, rfl⟩
  have C2 := Lib.hid (fun W => within_any y.s.day 0 60 W)
  rw [← h2] at C2 he
  have C3 := Lib.hid (fun W (h : SmOk y W) => allSp_any y.s.spots spB y.sc y.sa W few.sp h.sp fun c _ W _ => spB_any c W)
  have C4 := Lib.hid (fun W (h : SmOk y W) => allTl_any y.s.tools (tlB y.s.spots.length y.s.day) y.tc y.ta W y few.tl h.tl fun c _ W _ => tool_any y c W (Nat.le_trans few.sp (by decide)))
  have C5 := Lib.hid (fun W (h : SmOk y W) => allRd_any y.s.reads rdB y.rc y.ra W few.rd h.rd fun c _ W _ => (rdB_any c W).mono (by rintro e w' ⟨rfl, rfl⟩; exact ⟨rfl, Below.refl _ _⟩))
  obtain ⟨q3, h3⟩ : ∃ q, q = y.s.spots.all spB := ⟨_, rfl⟩
  rw [← h3] at C3 he
  obtain ⟨q4, h4⟩ : ∃ q, q = y.s.tools.all (tlB y.s.spots.length y.s.day) := ⟨_, rfl⟩
  rw [← h4] at C4 he
  obtain ⟨q5, h5⟩ : ∃ q, q = y.s.reads.all rdB := ⟨_, rfl⟩
  rw [← h5] at C5 he
  have HQ := Lib.hid he
  have hf1 := few.sp
  have hf2 := few.tl
  have hf3 := few.rd
  clear h1 h2 h3 h4 h5 he hok few
  have H1 := Lib.hid (And.intro (hnw) (hbx))
  clear hnw hbx
  have x0 := H1.out.2.at 0 (v := .slice y.sa y.s.spots.length y.sc) rfl
  have x1 := H1.out.2.at 1 (v := vi y.s.strain) rfl
  have x2 := H1.out.2.at 2 (v := .slice y.ta y.s.tools.length y.tc) rfl
  have x3 := H1.out.2.at 3 (v := vi y.s.day) rfl
  have x4 := H1.out.2.at 4 (v := .slice y.ra y.s.reads.length y.rc) rfl
  by_cases g1 : 6 < y.s.spots.length
  · have i1 : (6 : Int) < y.s.spots.length := by omega
    go_enter Try.func60, Try.ntmps60
    go_wp2_with fail
    go_ret
    exact ⟨ret_int (by rw [HQ.out]; simp [g1]), H1.out.1⟩
  have i1 : ¬ (6 : Int) < y.s.spots.length := by omega
  by_cases g2 : 8 < y.s.tools.length
  · have i2 : (8 : Int) < y.s.tools.length := by omega
    go_enter Try.func60, Try.ntmps60
    go_wp2_with fail
    go_ret
    exact ⟨ret_int (by rw [HQ.out]; simp [g1, g2]), H1.out.1⟩
  have i2 : ¬ (8 : Int) < y.s.tools.length := by omega
  by_cases g3 : y.s.spots.length = 0
  · have i3 : ((y.s.spots.length : Int) == 0) = true := by rw [beq_iff_eq]; omega
    go_enter Try.func60, Try.ntmps60
    go_wp2_with fail
    go_ret
    exact ⟨ret_int (by rw [HQ.out]; simp [g2, g3]), H1.out.1⟩
  have i3 : ((y.s.spots.length : Int) == 0) = false := by rw [beq_eq_false_iff_ne]; omega
  go_enter Try.func60, Try.ntmps60
  go_wp2_with fail
  refine (C1.out _).mono ?_
  rintro e w' ⟨rfl, rfl⟩
  cases q1 with
  | false =>
    go_wp2_with fail
    go_ret
    exact ⟨ret_int (by rw [HQ.out]; simp <;> omega), H1.out.1⟩
  | true =>
    go_wp2_with fail
    refine (C2.out _).mono ?_
    rintro e w' ⟨rfl, rfl⟩
    cases q2 with
    | false =>
      go_wp2_with fail
      go_ret
      exact ⟨ret_int (by rw [HQ.out]; simp <;> omega), H1.out.1⟩
    | true =>
      by_cases g4 : y.s.reads.length = y.s.tools.length
      · have i4 : ((y.s.reads.length : Int) == y.s.tools.length) = true := by rw [beq_iff_eq]; omega
        have G4 := Lib.hid g4
        clear g4
        go_wp2_with fail
        refine (C3.out _ (HOK.out.next H1.out.1)).mono ?_
        rintro e w2 ⟨rfl, hb⟩
        have H3 := Lib.hid (And.intro ((newer_trans H1.out.1 hb)) ((H1.out.2.below hb H1.out.2.lt)))
        clear hb H1 x0 x1 x2 x3 x4
        have x0 := H3.out.2.at 0 (v := .slice y.sa y.s.spots.length y.sc) rfl
        have x1 := H3.out.2.at 1 (v := vi y.s.strain) rfl
        have x2 := H3.out.2.at 2 (v := .slice y.ta y.s.tools.length y.tc) rfl
        have x3 := H3.out.2.at 3 (v := vi y.s.day) rfl
        have x4 := H3.out.2.at 4 (v := .slice y.ra y.s.reads.length y.rc) rfl
        cases q3 with
        | false =>
          go_wp2_with fail
          go_ret
          exact ⟨ret_int (by rw [HQ.out]; simp [g1, g2, g3, G4.out]), H3.out.1⟩
        | true =>
          go_wp2_with fail
          refine (C4.out _ (HOK.out.next H3.out.1)).mono ?_
          rintro e w4 ⟨rfl, hb⟩
          have H5 := Lib.hid (And.intro ((newer_trans H3.out.1 hb)) ((H3.out.2.below hb H3.out.2.lt)))
          clear hb H3 x0 x1 x2 x3 x4
          have x0 := H5.out.2.at 0 (v := .slice y.sa y.s.spots.length y.sc) rfl
          have x1 := H5.out.2.at 1 (v := vi y.s.strain) rfl
          have x2 := H5.out.2.at 2 (v := .slice y.ta y.s.tools.length y.tc) rfl
          have x3 := H5.out.2.at 3 (v := vi y.s.day) rfl
          have x4 := H5.out.2.at 4 (v := .slice y.ra y.s.reads.length y.rc) rfl
          cases q4 with
          | false =>
            go_wp2_with fail
            go_ret
            exact ⟨ret_int (by rw [HQ.out]; simp [g1, g2, g3, G4.out]), H5.out.1⟩
          | true =>
            go_wp2_with fail
            refine (C5.out _ (HOK.out.next H5.out.1)).mono ?_
            rintro e w6 ⟨rfl, hb⟩
            have H7 := Lib.hid (And.intro ((newer_trans H5.out.1 hb)) ((H5.out.2.below hb H5.out.2.lt)))
            clear hb H5 x0 x1 x2 x3 x4
            have x0 := H7.out.2.at 0 (v := .slice y.sa y.s.spots.length y.sc) rfl
            have x1 := H7.out.2.at 1 (v := vi y.s.strain) rfl
            have x2 := H7.out.2.at 2 (v := .slice y.ta y.s.tools.length y.tc) rfl
            have x3 := H7.out.2.at 3 (v := vi y.s.day) rfl
            have x4 := H7.out.2.at 4 (v := .slice y.ra y.s.reads.length y.rc) rfl
            cases q5 with
            | false =>
              go_wp2_with fail
              go_ret
              exact ⟨ret_int (by rw [HQ.out]; simp [g1, g2, g3, G4.out]), H7.out.1⟩
            | true =>
              go_wp2_with fail
              go_ret
              exact ⟨ret_int (by rw [HQ.out]; simp [g1, g2, g3, G4.out]), H7.out.1⟩
      · have i4 : ((y.s.reads.length : Int) == y.s.tools.length) = false := by rw [beq_eq_false_iff_ne]; omega
        go_wp2_with fail
        go_ret
        exact ⟨ret_int (by rw [HQ.out]; simp [g1, g2, g3, g4]), H1.out.1⟩
set_option maxHeartbeats 1000000 in
theorem checkSurvey_any (y : Sm) (w : World) (hok : SmOk y w) (few : SmFew y) : Calls Try.prog 42 #[smV y] w fun e w' => e = .returned (vi (errN y.s)) ∧ newer w w' := by
  have hnw := newer_allocH w (.cells (smC y) 40)
  have hbx := Whole.made w 40 (smC y)
  have HV := Lib.hid (check_any y _ (hok.next hnw) few)
  have HN := Lib.hid hnw
  have x0 := hbx.at 0 (v := .slice y.sa y.s.spots.length y.sc) rfl
  have x1 := hbx.at 1 (v := vi y.s.strain) rfl
  have x2 := hbx.at 2 (v := .slice y.ta y.s.tools.length y.tc) rfl
  have x3 := hbx.at 3 (v := vi y.s.day) rfl
  have x4 := hbx.at 4 (v := .slice y.ra y.s.reads.length y.rc) rfl
  clear hnw hbx
  obtain ⟨q, hq⟩ : ∃ q, q = errN y.s := ⟨_, rfl⟩
  rw [← hq] at HV ⊢
  clear hq
  go_enter Try.func42, Try.ntmps42
  go_wp2_with fail
  refine (HV.out).mono ?_
  rintro e w1 ⟨rfl, hb⟩
  have HB := Lib.hid (newer_trans HN.out hb)
  clear hb HV
  go_wp2_with fail
  go_ret
  exact ⟨rfl, HB.out⟩

end Go.Proofs.Ytpmafnifgegfbaa
