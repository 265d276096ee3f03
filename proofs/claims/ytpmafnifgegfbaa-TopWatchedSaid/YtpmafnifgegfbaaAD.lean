/- The error of a survey, by the reference. -/
import Derived.Test.YtpmafnifgegfbaaAB
import Derived.Test.YtpmafnifgegfbaaN
namespace Go.Proofs.Ytpmafnifgegfbaa
open Go.RowKit Go.Shelf Go.Deep

set_option maxRecDepth 100000 in
set_option maxHeartbeats 4000000 in
theorem refFault_any (y : Sm) (w : World) (hok : SmOk y w) (few : SmFew y) : Calls Try.prog 18 #[smV y] w fun e w' => e = .returned (vi (errN y.s)) ∧ newer w w' := by
  have hnw := newer_allocH w (.cells (smC y) 26)
  have hbx := Whole.made w 26 (smC y)
  have HOK := Lib.hid hok
  have HF := Lib.hid few
  have HN := Lib.hid hnw
  have HB := Lib.hid hbx
  obtain ⟨er, he⟩ : ∃ q, q = errN y.s := ⟨_, rfl⟩
  rw [← he]
  unfold errN at he
  have HI1 := Lib.hid (fun W => in_any y.s.strain 0 60 W)
  have HI2 := Lib.hid (fun W => in_any y.s.day 0 60 W)
  obtain ⟨q1, hq1⟩ : ∃ q, q = inB y.s.strain 0 60 := ⟨_, rfl⟩
  obtain ⟨q2, hq2⟩ : ∃ q, q = inB y.s.day 0 60 := ⟨_, rfl⟩
  rw [← hq1] at HI1 he
  rw [← hq2] at HI2 he
  obtain ⟨A, hA⟩ : ∃ q, q = y.s.spots.all spB := ⟨_, rfl⟩
  obtain ⟨B, hB⟩ : ∃ q, q = y.s.tools.all (tlB y.s.spots.length y.s.day) := ⟨_, rfl⟩
  obtain ⟨C, hC⟩ : ∃ q, q = y.s.reads.all rdB := ⟨_, rfl⟩
  rw [← hA, ← hB, ← hC] at he
  have HABC := Lib.hid (And.intro hA (And.intro hB hC))
  have hf1 := few.sp
  have hf2 := few.tl
  have hf3 := few.rd
  have x0 := hbx.at 0 (v := .slice y.sa y.s.spots.length y.sc) rfl
  have x1 := hbx.at 1 (v := vi y.s.strain) rfl
  have x2 := hbx.at 2 (v := .slice y.ta y.s.tools.length y.tc) rfl
  have x3 := hbx.at 3 (v := vi y.s.day) rfl
  have x4 := hbx.at 4 (v := .slice y.ra y.s.reads.length y.rc) rfl
  clear hnw hbx hok few hA hB hC hq1 hq2
  by_cases g1 : 6 < y.s.spots.length
  case pos =>
    have i1 : (6 : Int) < y.s.spots.length := by omega
    have HE := Lib.hid (show er = 3 by rw [he]; simp [g1])
    clear he
    go_enter Try.func18, Try.ntmps18
    go_wp2_with fail
    go_ret
    exact ⟨ret_int HE.out.symm, HN.out⟩
  case neg =>
    have i1 : ¬ (6 : Int) < y.s.spots.length := by omega
    by_cases g2 : 8 < y.s.tools.length
    case pos =>
      have i2 : (8 : Int) < y.s.tools.length := by omega
      have HE := Lib.hid (show er = 3 by rw [he]; simp [g2])
      clear he
      go_enter Try.func18, Try.ntmps18
      go_wp2_with fail
      go_ret
      exact ⟨ret_int HE.out.symm, HN.out⟩
    case neg =>
      have i2 : ¬ (8 : Int) < y.s.tools.length := by omega
      by_cases g3 : y.s.spots.length = 0
      case pos =>
        have i3 : (y.s.spots.length : Int) < 1 := by omega
        have HE := Lib.hid (show er = 1 by rw [he]; simp [g3, g2])
        clear he g3
        go_enter Try.func18, Try.ntmps18
        go_wp2_with fail
        go_ret
        exact ⟨ret_int HE.out.symm, HN.out⟩
      case neg =>
        have i3 : ¬ (y.s.spots.length : Int) < 1 := by omega
        cases q1 with
        | false =>
          have HE := Lib.hid (show er = 1 by rw [he]; simp [g1, g2])
          clear he
          go_enter Try.func18, Try.ntmps18
          go_wp2_with fail
          refine (HI1.out _).mono ?_
          rintro e w' ⟨rfl, rfl⟩
          go_wp2_with fail
          go_ret
          exact ⟨ret_int HE.out.symm, HN.out⟩
        | true =>
          cases q2 with
          | false =>
            have HE := Lib.hid (show er = 1 by rw [he]; simp [g1, g2])
            clear he
            go_enter Try.func18, Try.ntmps18
            go_wp2_with fail
            refine (HI1.out _).mono ?_
            rintro e w' ⟨rfl, rfl⟩
            go_wp2_with fail
            refine (HI2.out _).mono ?_
            rintro e w' ⟨rfl, rfl⟩
            go_wp2_with fail
            go_ret
            exact ⟨ret_int HE.out.symm, HN.out⟩
          | true =>
            by_cases g4 : y.s.reads.length = y.s.tools.length
            case neg =>
              have i4 : ((y.s.reads.length : Int) != y.s.tools.length) = true := by rw [bne_iff_ne]; omega
              have HE := Lib.hid (show er = 1 by rw [he]; simp [g1, g2, g4])
              clear he g4
              go_enter Try.func18, Try.ntmps18
              go_wp2_with fail
              refine (HI1.out _).mono ?_
              rintro e w' ⟨rfl, rfl⟩
              go_wp2_with fail
              refine (HI2.out _).mono ?_
              rintro e w' ⟨rfl, rfl⟩
              go_wp2_with fail
              go_ret
              exact ⟨ret_int HE.out.symm, HN.out⟩
            case pos =>
              have i4 : ((y.s.reads.length : Int) != y.s.tools.length) = false := by rw [bne_eq_false_iff_eq]; omega
              have HE := Lib.hid (show er = if (!A || !B || !C) = true then 1 else 0 by rw [he]; simp [g1, g2, g3, g4])
              have HG4 := Lib.hid g4
              clear he g4
              go_enter Try.func18, Try.ntmps18
              go_wp2_with fail
              refine (HI1.out _).mono ?_
              rintro e w' ⟨rfl, rfl⟩
              go_wp2_with fail
              refine (HI2.out _).mono ?_
              rintro e w' ⟨rfl, rfl⟩
              go_wp2_with fail
              clear x0 x1 x2 x3 x4
              go_loopw [3] (fun s3 wr => ∃ i : Nat, i ≤ y.s.spots.length ∧ s3 = vi i ∧ early (fun p => !spB p) y.s.spots i ∧ newer w wr ∧ Whole wr w.heap.size 26 (smC y)) (fun s3 _ => y.s.spots.length - (intOf s3).toNat)
              case atStart => exact ⟨0, Nat.zero_le _, rfl, early_zero _ _, HN.out, HB.out⟩
              case round =>
                obtain ⟨i, hi, rfl, hea, hnw, hxb⟩ := hrel
                have x0 := hxb.at 0 (v := .slice y.sa y.s.spots.length y.sc) rfl
                have HJ := Lib.hid (And.intro hea (And.intro hnw hxb))
                clear hea hnw hxb
                by_cases hlt : i < y.s.spots.length
                case pos =>
                  obtain ⟨p, hp⟩ : ∃ p, y.s.spots[i]? = some p := ⟨_, List.getElem?_eq_getElem hlt⟩
                  obtain ⟨sb, so, es, hsb, p0, p1, p2, p3⟩ := row4 (HOK.out.next HJ.out.2.1).sp hp
                  have HP := Lib.hid hp
                  rw [es] at x0
                  clear es hsb hp
                  have HC1 := Lib.hid (span_any p.x wr)
                  obtain ⟨v1, hv1⟩ : ∃ q, q = rgB p.x := ⟨_, rfl⟩
                  rw [← hv1] at HC1
                  go_wp2_with fail
                  refine (HC1.out).mono ?_
                  rintro e w1 ⟨rfl, hb1⟩
                  have HJ1 := Lib.hid (show newer w w1 ∧ Whole w1 w.heap.size 26 (smC y) from ⟨newer_trans HJ.out.2.1 hb1, HJ.out.2.2.below hb1 HJ.out.2.2.lt⟩)
                  have x0' := keep_cell x0 hb1
                  have p2' := keep_cell p2 hb1
                  have p3' := keep_cell p3 hb1
                  have HV1 := Lib.hid hv1
                  clear hb1 x0 p0 p1 p2 p3 hv1 HC1
                  cases v1 with
                  | false =>
                    have HR := Lib.hid (show er = 1 by
                      have : A = false := by
                        rw [HABC.out.1]
                        exact all_bad (p := spB) HP.out (by unfold spB; rw [← HV1.out]; rfl)
                      rw [HE.out, this]
                      rfl)
                    go_wp2_with fail
                    go_ret
                    exact ⟨ret_int HR.out.symm, HJ1.out.1⟩
                  | true =>
                    have HC2 := Lib.hid (span_any p.y w1)
                    obtain ⟨v2, hv2⟩ : ∃ q, q = rgB p.y := ⟨_, rfl⟩
                    rw [← hv2] at HC2
                    have HV2 := Lib.hid hv2
                    clear hv2
                    go_wp2_with fail
                    refine (HC2.out).mono ?_
                    rintro e w2 ⟨rfl, hb2⟩
                    have HJ2 := Lib.hid (show newer w w2 ∧ Whole w2 w.heap.size 26 (smC y) from ⟨newer_trans HJ1.out.1 hb2, HJ1.out.2.below hb2 HJ1.out.2.lt⟩)
                    clear hb2 x0' p2' p3' HC2
                    cases v2 with
                    | false =>
                      have HR := Lib.hid (show er = 1 by
                        have : A = false := by
                          rw [HABC.out.1]
                          exact all_bad (p := spB) HP.out (by unfold spB; rw [← HV1.out, ← HV2.out]; rfl)
                        rw [HE.out, this]
                        rfl)
                      go_wp2_with fail
                      go_ret
                      exact ⟨ret_int HR.out.symm, HJ2.out.1⟩
                    | true =>
                      have HG2 := Lib.hid (early_succ HJ.out.1 HP.out (show (!spB p) = false by unfold spB; rw [← HV1.out, ← HV2.out]; rfl))
                      go_wp2_with fail
                      go_roundw
                      case rel => exact ⟨i + 1, by omega, by go_num, HG2.out, HJ2.out.1, HJ2.out.2⟩
                      case measure => simp [intOf]; omega
                case neg =>
                  obtain rfl : i = y.s.spots.length := by omega
                  have HAT := Lib.hid (show A = true by rw [HABC.out.1]; exact all_early HJ.out.1)
                  obtain ⟨wo, hwo⟩ : ∃ wo : World, wo = wr := ⟨_, rfl⟩
                  rw [← hwo] at x0 HJ ⊢
                  clear hwo
                  go_wp2_with fail
                  clear x0
                  go_loopw [4] (fun s4 wr => ∃ k : Nat, k ≤ y.s.tools.length ∧ s4 = vi k ∧ early (fun t => !tlB y.s.spots.length y.s.day t) y.s.tools k ∧ early (fun n => !rdB n) y.s.reads k ∧ newer w wr ∧ Whole wr w.heap.size 26 (smC y)) (fun s4 _ => y.s.tools.length - (intOf s4).toNat)
                  case atStart => exact ⟨0, Nat.zero_le _, rfl, early_zero _ _, early_zero _ _, HJ.out.2.1, HJ.out.2.2⟩
                  case round =>
                    obtain ⟨k, hk, rfl, ha, hb, hnw, hxb⟩ := hrel
                    have t2 := hxb.at 2 (v := .slice y.ta y.s.tools.length y.tc) rfl
                    have HK := Lib.hid (And.intro ha (And.intro hb (And.intro hnw hxb)))
                    clear ha hb hnw hxb
                    by_cases hkl : k < y.s.tools.length
                    case neg =>
                      obtain rfl : k = y.s.tools.length := by omega
                      have HR := Lib.hid (show er = 0 by
                        have hB : B = true := by rw [HABC.out.2.1]; exact all_early HK.out.1
                        have hC : C = true := by rw [HABC.out.2.2]; exact all_early (by rw [HG4.out]; exact HK.out.2.1)
                        rw [HE.out, HAT.out, hB, hC]
                        rfl)
                      go_wp2_with fail
                      go_ret
                      exact ⟨ret_int HR.out.symm, HK.out.2.2.1⟩
                    case pos =>
                      obtain ⟨t, ht⟩ : ∃ t, y.s.tools[k]? = some t := ⟨_, List.getElem?_eq_getElem hkl⟩
                      obtain ⟨rd, hrd⟩ : ∃ t, y.s.reads[k]? = some t := ⟨_, List.getElem?_eq_getElem (by have := HG4.out; omega)⟩
                      have hkt : (k : Int) < y.s.tools.length := by omega
                      have hkr : (k : Int) < y.s.reads.length := by have := HG4.out; omega
                      obtain ⟨w4, hw4⟩ : ∃ w4 : World, w4 = wr := ⟨_, rfl⟩
                      rw [← hw4] at t2 HK ⊢
                      clear hw4
                      have x0 := HK.out.2.2.2.at 0 (v := .slice y.sa y.s.spots.length y.sc) rfl
                      have x1 := HK.out.2.2.2.at 1 (v := vi y.s.strain) rfl
                      have x2 := HK.out.2.2.2.at 2 (v := .slice y.ta y.s.tools.length y.tc) rfl
                      have x3 := HK.out.2.2.2.at 3 (v := vi y.s.day) rfl
                      have x4 := HK.out.2.2.2.at 4 (v := .slice y.ra y.s.reads.length y.rc) rfl
                      have t4 := x4
                      obtain ⟨tb, tf, et, htb, t0_, t1_, t2_, t3_, t4_, t5_, t6_⟩ := row7 (HOK.out.next HK.out.2.2.1).tl ht
                      obtain ⟨rb, rf, er', hrb, r0⟩ := row1 (HOK.out.next HK.out.2.2.1).rd hrd
                      have HTR := Lib.hid (And.intro ht hrd)
                      rw [et] at t2
                      rw [er'] at t4
                      clear et htb er' hrb ht hrd
                      have HT1 := Lib.hid (fun W => refTool_any y t W (by omega))
                      have HT2 := Lib.hid (fun W => in_any rd (-1000) 1000 W)
                      obtain ⟨v1, hv1⟩ : ∃ q, q = tlB y.s.spots.length y.s.day t := ⟨_, rfl⟩
                      obtain ⟨v2, hv2⟩ : ∃ q, q = inB rd (-1000) 1000 := ⟨_, rfl⟩
                      rw [← hv1] at HT1
                      rw [← hv2] at HT2
                      have HV := Lib.hid (And.intro hv1 hv2)
                      clear hv1 hv2
                      cases v1 with
                      | false =>
                        have HR := Lib.hid (show er = 1 by
                          have : B = false := by
                            rw [HABC.out.2.1]
                            exact all_bad (p := tlB y.s.spots.length y.s.day) HTR.out.1 HV.out.1.symm
                          rw [HE.out, this]
                          simp)
                        go_upto_region 13 with fail
                        refine wp_words (by kernel_rfl) (region_told_u 16 (by kernel_rfl) (by kernel_rfl) [false, false, false, false, false, false, false, false, false, true, true, true, true, true, true, true] (fun W => Below w4.heap.size w4 W) newer [vIs (smV y), vIs (.pointer (some ⟨w.heap.size, 2, none⟩)), vIs (.slice (some ⟨tb, tf, none⟩) y.s.tools.length y.tc), vIs (.int .i64 k), vIs (.pointer (some ⟨tb, tf + k * 7, none⟩)), vIs (tlV t), vIs (.bool false), vIs (.bool true), vIs (.bool true), vIs (undef), vIs (undef), vIs (undef), vIs (undef), vIs (undef), vIs (undef), vIs (undef)] ⟨rfl, rfl, rfl, rfl, rfl, rfl, rfl, rfl, rfl, (fun v W h => by obtain rfl : v = _ := h; simp), (fun v W h => by obtain rfl : v = _ := h; simp), (fun v W h => by obtain rfl : v = _ := h; simp), (fun v W h => by obtain rfl : v = _ := h; simp), (fun v W h => by obtain rfl : v = _ := h; simp), (fun v W h => by obtain rfl : v = _ := h; simp), (fun v W h => by obtain rfl : v = _ := h; simp), trivial⟩ ⟨(fun h => Bool.noConfusion (show false = true from h)), (fun h => Bool.noConfusion (show false = true from h)), (fun h => Bool.noConfusion (show false = true from h)), (fun h => Bool.noConfusion (show false = true from h)), (fun h => Bool.noConfusion (show false = true from h)), (fun h => Bool.noConfusion (show false = true from h)), (fun h => Bool.noConfusion (show false = true from h)), (fun h => Bool.noConfusion (show false = true from h)), (fun h => Bool.noConfusion (show false = true from h)), (fun _ _ => rfl), (fun _ _ => rfl), (fun _ _ => rfl), (fun _ _ => rfl), (fun _ _ => rfl), (fun _ _ => rfl), (fun _ _ => rfl), trivial⟩ (fun h k => newer_trans h k) (pickD_stable _ ⟨vIs_st, vIs_st, vIs_st, vIs_st, vIs_st, vIs_st, vIs_st, vIs_st, vIs_st, vIs_st, vIs_st, vIs_st, vIs_st, vIs_st, vIs_st, vIs_st, trivial⟩) (Below.refl _ w4).drew (Below.refl _ _) ?_ ?_)
                        · refine ⟨.inr ?_, .inr ?_, .inr ?_, .inr ?_, .inr ?_, .inr ?_, .inr ?_, .inr ?_, .inr ?_, .inl rfl, .inl rfl, .inl rfl, .inl rfl, .inl rfl, .inl rfl, .inl rfl, trivial⟩
                          · intro a W hG hR hO hp
                            have h1 := hO.slot 1 (by kernel_rfl)
                            have c0 := keep_cell x0 hG
                            have c1 := keep_cell x1 hG
                            have c2 := keep_cell x2 hG
                            have c3 := keep_cell x3 hG
                            have c4 := keep_cell x4 hG
                            refine kY (v := smV y) hG rfl ?_
                            simp [slotOf] at h1
                            simp [execOp, go_sem, h1, c0, c1, c2, c3, c4]
                          · intro a W hG hR hO hp
                            have h1 := hO.slot 1 (by kernel_rfl)
                            refine kY (v := .pointer (some ⟨w.heap.size, 2, none⟩)) hG rfl ?_
                            simp [slotOf] at h1
                            simp [execOp, go_sem, h1]
                          · intro a W hG hR hO hp
                            have h73 : slotOf a 73 = .pointer (some ⟨w.heap.size, 2, none⟩) := hp.1
                            have c0 := keep_cell t2 hG
                            refine kY (v := .slice (some ⟨tb, tf, none⟩) y.s.tools.length y.tc) hG rfl ?_
                            simp [slotOf] at h73
                            simp [execOp, go_sem, h73, c0]
                          · exact fun a W hG _ hO _ => kM 4 rfl (hO.slot 4 (by kernel_rfl)) rfl hG
                          · intro a W hG hR hO hp
                            have h74 : slotOf a 74 = .slice (some ⟨tb, tf, none⟩) y.s.tools.length y.tc := hp.1
                            have h75 : slotOf a 75 = .int .i64 k := hp.2.1
                            refine kY (v := .pointer (some ⟨tb, tf + k * 7, none⟩)) hG rfl ?_
                            simp [slotOf] at h74 h75
                            simp [execOp, go_sem, h74, h75, hkt]
                          · intro a W hG hR hO hp
                            have h76 : slotOf a 76 = .pointer (some ⟨tb, tf + k * 7, none⟩) := hp.1
                            have c0 := keep_cell t0_ hG
                            have c1 := keep_cell t1_ hG
                            have c2 := keep_cell t2_ hG
                            have c3 := keep_cell t3_ hG
                            have c4 := keep_cell t4_ hG
                            have c5 := keep_cell t5_ hG
                            have c6 := keep_cell t6_ hG
                            refine kY (v := tlV t) hG rfl ?_
                            simp [slotOf] at h76
                            simp [execOp, go_sem, h76, c0, c1, c2, c3, c4, c5, c6]
                          · intro a W hG hR hO hp
                            have h72 : slotOf a 72 = smV y := hp.1
                            have h77 : slotOf a 77 = tlV t := hp.2.1
                            refine wp_enters (f := 59) (args := #[smV y, tlV t]) ?_ ((HT1.out W).mono ?_)
                            · simp [slotOf] at h72 h77
                              simp [go_sem, h72, h77]
                            · rintro e w' ⟨rfl, hb⟩
                              exact ⟨_, rfl, _, rfl, rfl, hb, below_next hG hb⟩
                          · intro a W hG hR hO hp
                            have h78 : slotOf a 78 = .bool false := hp.1
                            refine kY (v := .bool true) hG rfl ?_
                            simp [slotOf] at h78
                            simp [execOp, go_sem, h78]
                          · exact fun a W hG _ _ hp => kM 79 rfl hp.1 rfl hG
                        · intro w5 hG hR
                          rintro _ rfl _ rfl _ rfl _ rfl _ rfl _ rfl _ rfl _ rfl _ rfl _ rfl _ rfl _ rfl _ rfl _ rfl _ rfl _ rfl
                          change wpList _ _ _ _ _ _
                          simp only [Act.put, List.setIfInBounds_toArray, List.set_cons_zero, List.set_cons_succ, List.drop_succ_cons, List.drop_zero]
                          have HE4 := Lib.hid (newer_trans HK.out.2.2.1 hG)
                          clear hG hR
                          go_wp2_with fail
                          go_ret
                          exact ⟨ret_int HR.out.symm, HE4.out⟩
                      | true =>
                        cases v2 with
                        | false =>
                          have HR := Lib.hid (show er = 1 by
                            have : C = false := by
                              rw [HABC.out.2.2]
                              exact all_bad (p := rdB) HTR.out.2 HV.out.2.symm
                            rw [HE.out, this]
                            simp)
                          go_upto_region 13 with fail
                          refine wp_words (by kernel_rfl) (region_told_u 16 (by kernel_rfl) (by kernel_rfl) [false, false, false, false, false, false, false, false, false, false, false, false, false, false, false, false] (fun W => Below w4.heap.size w4 W) newer [vIs (smV y), vIs (.pointer (some ⟨w.heap.size, 2, none⟩)), vIs (.slice (some ⟨tb, tf, none⟩) y.s.tools.length y.tc), vIs (.int .i64 k), vIs (.pointer (some ⟨tb, tf + k * 7, none⟩)), vIs (tlV t), vIs (.bool true), vIs (.bool false), vIs (.bool false), vIs (.pointer (some ⟨w.heap.size, 4, none⟩)), vIs (.slice (some ⟨rb, rf, none⟩) y.s.reads.length y.rc), vIs (.int .i64 k), vIs (.pointer (some ⟨rb, rf + k, none⟩)), vIs (vi rd), vIs (.bool false), vIs (.bool true)] ⟨rfl, rfl, rfl, rfl, rfl, rfl, rfl, rfl, rfl, (fun v W h => by obtain rfl : v = _ := h; rfl), (fun v W h => by obtain rfl : v = _ := h; rfl), (fun v W h => by obtain rfl : v = _ := h; rfl), (fun v W h => by obtain rfl : v = _ := h; rfl), (fun v W h => by obtain rfl : v = _ := h; rfl), (fun v W h => by obtain rfl : v = _ := h; rfl), (fun v W h => by obtain rfl : v = _ := h; rfl), trivial⟩ ⟨(fun h => Bool.noConfusion (show false = true from h)), (fun h => Bool.noConfusion (show false = true from h)), (fun h => Bool.noConfusion (show false = true from h)), (fun h => Bool.noConfusion (show false = true from h)), (fun h => Bool.noConfusion (show false = true from h)), (fun h => Bool.noConfusion (show false = true from h)), (fun h => Bool.noConfusion (show false = true from h)), (fun h => Bool.noConfusion (show false = true from h)), (fun h => Bool.noConfusion (show false = true from h)), (fun h => Bool.noConfusion (show false = true from h)), (fun h => Bool.noConfusion (show false = true from h)), (fun h => Bool.noConfusion (show false = true from h)), (fun h => Bool.noConfusion (show false = true from h)), (fun h => Bool.noConfusion (show false = true from h)), (fun h => Bool.noConfusion (show false = true from h)), (fun h => Bool.noConfusion (show false = true from h)), trivial⟩ (fun h k => newer_trans h k) (pickD_stable _ ⟨vIs_st, vIs_st, vIs_st, vIs_st, vIs_st, vIs_st, vIs_st, vIs_st, vIs_st, vIs_st, vIs_st, vIs_st, vIs_st, vIs_st, vIs_st, vIs_st, trivial⟩) (Below.refl _ w4).drew (Below.refl _ _) ?_ ?_)
                          · refine ⟨.inr ?_, .inr ?_, .inr ?_, .inr ?_, .inr ?_, .inr ?_, .inr ?_, .inr ?_, .inr ?_, .inr ?_, .inr ?_, .inr ?_, .inr ?_, .inr ?_, .inr ?_, .inr ?_, trivial⟩
                            · intro a W hG hR hO hp
                              have h1 := hO.slot 1 (by kernel_rfl)
                              have c0 := keep_cell x0 hG
                              have c1 := keep_cell x1 hG
                              have c2 := keep_cell x2 hG
                              have c3 := keep_cell x3 hG
                              have c4 := keep_cell x4 hG
                              refine kY (v := smV y) hG rfl ?_
                              simp [slotOf] at h1
                              simp [execOp, go_sem, h1, c0, c1, c2, c3, c4]
                            · intro a W hG hR hO hp
                              have h1 := hO.slot 1 (by kernel_rfl)
                              refine kY (v := .pointer (some ⟨w.heap.size, 2, none⟩)) hG rfl ?_
                              simp [slotOf] at h1
                              simp [execOp, go_sem, h1]
                            · intro a W hG hR hO hp
                              have h73 : slotOf a 73 = .pointer (some ⟨w.heap.size, 2, none⟩) := hp.1
                              have c0 := keep_cell t2 hG
                              refine kY (v := .slice (some ⟨tb, tf, none⟩) y.s.tools.length y.tc) hG rfl ?_
                              simp [slotOf] at h73
                              simp [execOp, go_sem, h73, c0]
                            · exact fun a W hG _ hO _ => kM 4 rfl (hO.slot 4 (by kernel_rfl)) rfl hG
                            · intro a W hG hR hO hp
                              have h74 : slotOf a 74 = .slice (some ⟨tb, tf, none⟩) y.s.tools.length y.tc := hp.1
                              have h75 : slotOf a 75 = .int .i64 k := hp.2.1
                              refine kY (v := .pointer (some ⟨tb, tf + k * 7, none⟩)) hG rfl ?_
                              simp [slotOf] at h74 h75
                              simp [execOp, go_sem, h74, h75, hkt]
                            · intro a W hG hR hO hp
                              have h76 : slotOf a 76 = .pointer (some ⟨tb, tf + k * 7, none⟩) := hp.1
                              have c0 := keep_cell t0_ hG
                              have c1 := keep_cell t1_ hG
                              have c2 := keep_cell t2_ hG
                              have c3 := keep_cell t3_ hG
                              have c4 := keep_cell t4_ hG
                              have c5 := keep_cell t5_ hG
                              have c6 := keep_cell t6_ hG
                              refine kY (v := tlV t) hG rfl ?_
                              simp [slotOf] at h76
                              simp [execOp, go_sem, h76, c0, c1, c2, c3, c4, c5, c6]
                            · intro a W hG hR hO hp
                              have h72 : slotOf a 72 = smV y := hp.1
                              have h77 : slotOf a 77 = tlV t := hp.2.1
                              refine wp_enters (f := 59) (args := #[smV y, tlV t]) ?_ ((HT1.out W).mono ?_)
                              · simp [slotOf] at h72 h77
                                simp [go_sem, h72, h77]
                              · rintro e w' ⟨rfl, hb⟩
                                exact ⟨_, rfl, _, rfl, rfl, hb, below_next hG hb⟩
                            · intro a W hG hR hO hp
                              have h78 : slotOf a 78 = .bool true := hp.1
                              refine kY (v := .bool false) hG rfl ?_
                              simp [slotOf] at h78
                              simp [execOp, go_sem, h78]
                            · exact fun a W hG _ _ hp => kM 79 rfl hp.1 rfl hG
                            · intro a W hG hR hO hp
                              have h1 := hO.slot 1 (by kernel_rfl)
                              refine kY (v := .pointer (some ⟨w.heap.size, 4, none⟩)) hG rfl ?_
                              simp [slotOf] at h1
                              simp [execOp, go_sem, h1]
                            · intro a W hG hR hO hp
                              have h81 : slotOf a 81 = .pointer (some ⟨w.heap.size, 4, none⟩) := hp.1
                              have c0 := keep_cell t4 hG
                              refine kY (v := .slice (some ⟨rb, rf, none⟩) y.s.reads.length y.rc) hG rfl ?_
                              simp [slotOf] at h81
                              simp [execOp, go_sem, h81, c0]
                            · exact fun a W hG _ hO _ => kM 4 rfl (hO.slot 4 (by kernel_rfl)) rfl hG
                            · intro a W hG hR hO hp
                              have h82 : slotOf a 82 = .slice (some ⟨rb, rf, none⟩) y.s.reads.length y.rc := hp.1
                              have h83 : slotOf a 83 = .int .i64 k := hp.2.1
                              refine kY (v := .pointer (some ⟨rb, rf + k, none⟩)) hG rfl ?_
                              simp [slotOf] at h82 h83
                              simp [execOp, go_sem, h82, h83, hkr]
                            · intro a W hG hR hO hp
                              have h84 : slotOf a 84 = .pointer (some ⟨rb, rf + k, none⟩) := hp.1
                              have c0 := keep_cell r0 hG
                              refine kY (v := vi rd) hG rfl ?_
                              simp [slotOf] at h84
                              simp [execOp, go_sem, h84, c0]
                            · intro a W hG hR hO hp
                              have h85 : slotOf a 85 = vi rd := hp.1
                              refine wp_enters (f := 25) (args := #[vi rd, vi (-1000), vi 1000]) ?_ ((HT2.out W).mono ?_)
                              · simp [slotOf] at h85
                                simp [go_sem, h85]
                              · rintro e w' ⟨rfl, rfl⟩
                                exact ⟨_, rfl, _, rfl, rfl, Below.refl _ _, hG⟩
                            · intro a W hG hR hO hp
                              have h86 : slotOf a 86 = .bool false := hp.1
                              refine kY (v := .bool true) hG rfl ?_
                              simp [slotOf] at h86
                              simp [execOp, go_sem, h86]
                          · intro w5 hG hR
                            rintro _ rfl _ rfl _ rfl _ rfl _ rfl _ rfl _ rfl _ rfl _ rfl _ rfl _ rfl _ rfl _ rfl _ rfl _ rfl _ rfl
                            change wpList _ _ _ _ _ _
                            simp only [Act.put, List.setIfInBounds_toArray, List.set_cons_zero, List.set_cons_succ, List.drop_succ_cons, List.drop_zero]
                            have HE4 := Lib.hid (newer_trans HK.out.2.2.1 hG)
                            clear hG hR
                            go_wp2_with fail
                            go_ret
                            exact ⟨ret_int HR.out.symm, HE4.out⟩
                        | true =>
                          have HGA := Lib.hid (early_succ HK.out.1 HTR.out.1 (show (!tlB y.s.spots.length y.s.day t) = false by rw [← HV.out.1]; rfl))
                          have HGB := Lib.hid (early_succ HK.out.2.1 HTR.out.2 (show (!rdB rd) = false by unfold rdB; rw [← HV.out.2]; rfl))
                          go_upto_region 13 with fail
                          refine wp_words (by kernel_rfl) (region_told_u 16 (by kernel_rfl) (by kernel_rfl) [false, false, false, false, false, false, false, false, false, false, false, false, false, false, false, false] (fun W => Below w4.heap.size w4 W) newer [vIs (smV y), vIs (.pointer (some ⟨w.heap.size, 2, none⟩)), vIs (.slice (some ⟨tb, tf, none⟩) y.s.tools.length y.tc), vIs (.int .i64 k), vIs (.pointer (some ⟨tb, tf + k * 7, none⟩)), vIs (tlV t), vIs (.bool true), vIs (.bool false), vIs (.bool false), vIs (.pointer (some ⟨w.heap.size, 4, none⟩)), vIs (.slice (some ⟨rb, rf, none⟩) y.s.reads.length y.rc), vIs (.int .i64 k), vIs (.pointer (some ⟨rb, rf + k, none⟩)), vIs (vi rd), vIs (.bool true), vIs (.bool false)] ⟨rfl, rfl, rfl, rfl, rfl, rfl, rfl, rfl, rfl, (fun v W h => by obtain rfl : v = _ := h; rfl), (fun v W h => by obtain rfl : v = _ := h; rfl), (fun v W h => by obtain rfl : v = _ := h; rfl), (fun v W h => by obtain rfl : v = _ := h; rfl), (fun v W h => by obtain rfl : v = _ := h; rfl), (fun v W h => by obtain rfl : v = _ := h; rfl), (fun v W h => by obtain rfl : v = _ := h; rfl), trivial⟩ ⟨(fun h => Bool.noConfusion (show false = true from h)), (fun h => Bool.noConfusion (show false = true from h)), (fun h => Bool.noConfusion (show false = true from h)), (fun h => Bool.noConfusion (show false = true from h)), (fun h => Bool.noConfusion (show false = true from h)), (fun h => Bool.noConfusion (show false = true from h)), (fun h => Bool.noConfusion (show false = true from h)), (fun h => Bool.noConfusion (show false = true from h)), (fun h => Bool.noConfusion (show false = true from h)), (fun h => Bool.noConfusion (show false = true from h)), (fun h => Bool.noConfusion (show false = true from h)), (fun h => Bool.noConfusion (show false = true from h)), (fun h => Bool.noConfusion (show false = true from h)), (fun h => Bool.noConfusion (show false = true from h)), (fun h => Bool.noConfusion (show false = true from h)), (fun h => Bool.noConfusion (show false = true from h)), trivial⟩ (fun h k => newer_trans h k) (pickD_stable _ ⟨vIs_st, vIs_st, vIs_st, vIs_st, vIs_st, vIs_st, vIs_st, vIs_st, vIs_st, vIs_st, vIs_st, vIs_st, vIs_st, vIs_st, vIs_st, vIs_st, trivial⟩) (Below.refl _ w4).drew (Below.refl _ _) ?_ ?_)
                          · refine ⟨.inr ?_, .inr ?_, .inr ?_, .inr ?_, .inr ?_, .inr ?_, .inr ?_, .inr ?_, .inr ?_, .inr ?_, .inr ?_, .inr ?_, .inr ?_, .inr ?_, .inr ?_, .inr ?_, trivial⟩
                            · intro a W hG hR hO hp
                              have h1 := hO.slot 1 (by kernel_rfl)
                              have c0 := keep_cell x0 hG
                              have c1 := keep_cell x1 hG
                              have c2 := keep_cell x2 hG
                              have c3 := keep_cell x3 hG
                              have c4 := keep_cell x4 hG
                              refine kY (v := smV y) hG rfl ?_
                              simp [slotOf] at h1
                              simp [execOp, go_sem, h1, c0, c1, c2, c3, c4]
                            · intro a W hG hR hO hp
                              have h1 := hO.slot 1 (by kernel_rfl)
                              refine kY (v := .pointer (some ⟨w.heap.size, 2, none⟩)) hG rfl ?_
                              simp [slotOf] at h1
                              simp [execOp, go_sem, h1]
                            · intro a W hG hR hO hp
                              have h73 : slotOf a 73 = .pointer (some ⟨w.heap.size, 2, none⟩) := hp.1
                              have c0 := keep_cell t2 hG
                              refine kY (v := .slice (some ⟨tb, tf, none⟩) y.s.tools.length y.tc) hG rfl ?_
                              simp [slotOf] at h73
                              simp [execOp, go_sem, h73, c0]
                            · exact fun a W hG _ hO _ => kM 4 rfl (hO.slot 4 (by kernel_rfl)) rfl hG
                            · intro a W hG hR hO hp
                              have h74 : slotOf a 74 = .slice (some ⟨tb, tf, none⟩) y.s.tools.length y.tc := hp.1
                              have h75 : slotOf a 75 = .int .i64 k := hp.2.1
                              refine kY (v := .pointer (some ⟨tb, tf + k * 7, none⟩)) hG rfl ?_
                              simp [slotOf] at h74 h75
                              simp [execOp, go_sem, h74, h75, hkt]
                            · intro a W hG hR hO hp
                              have h76 : slotOf a 76 = .pointer (some ⟨tb, tf + k * 7, none⟩) := hp.1
                              have c0 := keep_cell t0_ hG
                              have c1 := keep_cell t1_ hG
                              have c2 := keep_cell t2_ hG
                              have c3 := keep_cell t3_ hG
                              have c4 := keep_cell t4_ hG
                              have c5 := keep_cell t5_ hG
                              have c6 := keep_cell t6_ hG
                              refine kY (v := tlV t) hG rfl ?_
                              simp [slotOf] at h76
                              simp [execOp, go_sem, h76, c0, c1, c2, c3, c4, c5, c6]
                            · intro a W hG hR hO hp
                              have h72 : slotOf a 72 = smV y := hp.1
                              have h77 : slotOf a 77 = tlV t := hp.2.1
                              refine wp_enters (f := 59) (args := #[smV y, tlV t]) ?_ ((HT1.out W).mono ?_)
                              · simp [slotOf] at h72 h77
                                simp [go_sem, h72, h77]
                              · rintro e w' ⟨rfl, hb⟩
                                exact ⟨_, rfl, _, rfl, rfl, hb, below_next hG hb⟩
                            · intro a W hG hR hO hp
                              have h78 : slotOf a 78 = .bool true := hp.1
                              refine kY (v := .bool false) hG rfl ?_
                              simp [slotOf] at h78
                              simp [execOp, go_sem, h78]
                            · exact fun a W hG _ _ hp => kM 79 rfl hp.1 rfl hG
                            · intro a W hG hR hO hp
                              have h1 := hO.slot 1 (by kernel_rfl)
                              refine kY (v := .pointer (some ⟨w.heap.size, 4, none⟩)) hG rfl ?_
                              simp [slotOf] at h1
                              simp [execOp, go_sem, h1]
                            · intro a W hG hR hO hp
                              have h81 : slotOf a 81 = .pointer (some ⟨w.heap.size, 4, none⟩) := hp.1
                              have c0 := keep_cell t4 hG
                              refine kY (v := .slice (some ⟨rb, rf, none⟩) y.s.reads.length y.rc) hG rfl ?_
                              simp [slotOf] at h81
                              simp [execOp, go_sem, h81, c0]
                            · exact fun a W hG _ hO _ => kM 4 rfl (hO.slot 4 (by kernel_rfl)) rfl hG
                            · intro a W hG hR hO hp
                              have h82 : slotOf a 82 = .slice (some ⟨rb, rf, none⟩) y.s.reads.length y.rc := hp.1
                              have h83 : slotOf a 83 = .int .i64 k := hp.2.1
                              refine kY (v := .pointer (some ⟨rb, rf + k, none⟩)) hG rfl ?_
                              simp [slotOf] at h82 h83
                              simp [execOp, go_sem, h82, h83, hkr]
                            · intro a W hG hR hO hp
                              have h84 : slotOf a 84 = .pointer (some ⟨rb, rf + k, none⟩) := hp.1
                              have c0 := keep_cell r0 hG
                              refine kY (v := vi rd) hG rfl ?_
                              simp [slotOf] at h84
                              simp [execOp, go_sem, h84, c0]
                            · intro a W hG hR hO hp
                              have h85 : slotOf a 85 = vi rd := hp.1
                              refine wp_enters (f := 25) (args := #[vi rd, vi (-1000), vi 1000]) ?_ ((HT2.out W).mono ?_)
                              · simp [slotOf] at h85
                                simp [go_sem, h85]
                              · rintro e w' ⟨rfl, rfl⟩
                                exact ⟨_, rfl, _, rfl, rfl, Below.refl _ _, hG⟩
                            · intro a W hG hR hO hp
                              have h86 : slotOf a 86 = .bool true := hp.1
                              refine kY (v := .bool false) hG rfl ?_
                              simp [slotOf] at h86
                              simp [execOp, go_sem, h86]
                          · intro w5 hG hR
                            rintro _ rfl _ rfl _ rfl _ rfl _ rfl _ rfl _ rfl _ rfl _ rfl _ rfl _ rfl _ rfl _ rfl _ rfl _ rfl _ rfl
                            change wpList _ _ _ _ _ _
                            simp only [Act.put, List.setIfInBounds_toArray, List.set_cons_zero, List.set_cons_succ, List.drop_succ_cons, List.drop_zero]
                            have HE4 := Lib.hid (show newer w w5 ∧ Whole w5 w.heap.size 26 (smC y) from ⟨newer_trans HK.out.2.2.1 hG, HK.out.2.2.2.below hG HK.out.2.2.2.lt⟩)
                            clear hG hR x0 x1 x2 x3 x4 t2 t4 t0_ t1_ t2_ t3_ t4_ t5_ t6_ r0
                            go_wp2_with fail
                            go_roundw
                            case rel => exact ⟨k + 1, by omega, by go_num, HGA.out, HGB.out, HE4.out.1, HE4.out.2⟩
                            case measure => simp [intOf]; omega

end Go.Proofs.Ytpmafnifgegfbaa
