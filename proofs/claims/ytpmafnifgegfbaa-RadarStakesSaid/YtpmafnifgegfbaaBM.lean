/- Few: surveys that the laws with the reference look at. -/
import Derived.Test.YtpmafnifgegfbaaAF
namespace Go.Proofs.Ytpmafnifgegfbaa
open Go.RowKit Go.Shelf Go.Deep

/-- What Few says. -/
structure FewR (y : Sm) (w : World) (e : Ending) (w' : World) : Prop where
  ex : ∃ b : Bool, e = .returned (.bool b) ∧ (b = true → thinS y.s = true ∧ (errN y.s = 0 → y.s.spots.length ≤ 3 ∧ y.s.tools.length ≤ 3)) ∧ newer w w'
set_option maxRecDepth 100000 in
set_option maxHeartbeats 4000000 in
/-- If Few says yes, the survey is thin, and not valid or of at most three spots. -/
theorem few_any (y : Sm) (w : World) (hok : SmOk y w) : Calls Try.prog 30 #[smV y] w fun e w' => FewR y w e w' := by
  have hnw := newer_allocH w (.cells (smC y) 26)
  have hxb := Whole.made w 26 (smC y)
  have HTH := Lib.hid (lawThin y)
  have HN0 := Lib.hid (And.intro hnw hxb)
  have HOK := Lib.hid hok
  have x0 := hxb.at 0 (v := .slice y.sa y.s.spots.length y.sc) rfl
  have x1 := hxb.at 1 (v := vi y.s.strain) rfl
  have x2 := hxb.at 2 (v := .slice y.ta y.s.tools.length y.tc) rfl
  have x3 := hxb.at 3 (v := vi y.s.day) rfl
  have x4 := hxb.at 4 (v := .slice y.ra y.s.reads.length y.rc) rfl
  clear hok hnw hxb
  cases ht : thinS y.s with
  | false =>
    rw [ht] at HTH
    clear ht
    go_enter Try.func30, Try.ntmps30
    go_wp2_with fail
    refine (HTH.out _).mono ?_
    rintro e w1 ⟨rfl, hb1⟩
    have HN := Lib.hid (And.intro (newer_trans HN0.out.1 hb1) (HN0.out.2.below hb1 HN0.out.2.lt))
    clear hb1 HN0 x0 x1 x2 x3 x4
    have x0 := HN.out.2.at 0 (v := .slice y.sa y.s.spots.length y.sc) rfl
    have x1 := HN.out.2.at 1 (v := vi y.s.strain) rfl
    have x2 := HN.out.2.at 2 (v := .slice y.ta y.s.tools.length y.tc) rfl
    have x3 := HN.out.2.at 3 (v := vi y.s.day) rfl
    have x4 := HN.out.2.at 4 (v := .slice y.ra y.s.reads.length y.rc) rfl
    go_wp2_with fail
    refine (HTH.out _).mono ?_
    rintro e w2 ⟨rfl, hb1⟩
    have HN2 := Lib.hid (newer_trans HN.out.1 hb1)
    clear hb1
    go_wp2_with fail
    go_ret
    exact ⟨⟨false, rfl, fun h => Bool.noConfusion h, HN2.out⟩⟩
  | true =>
    have HFW := Lib.hid (thin_few ht).1
    have HTT := Lib.hid ht
    rw [ht] at HTH
    clear ht
    by_cases he : errN y.s = 0
    case neg =>
      go_enter Try.func30, Try.ntmps30
      go_wp2_with fail
      refine (HTH.out _).mono ?_
      rintro e w1 ⟨rfl, hb1⟩
      have HN := Lib.hid (And.intro (newer_trans HN0.out.1 hb1) (HN0.out.2.below hb1 HN0.out.2.lt))
      clear hb1 HN0 x0 x1 x2 x3 x4
      have x0 := HN.out.2.at 0 (v := .slice y.sa y.s.spots.length y.sc) rfl
      have x1 := HN.out.2.at 1 (v := vi y.s.strain) rfl
      have x2 := HN.out.2.at 2 (v := .slice y.ta y.s.tools.length y.tc) rfl
      have x3 := HN.out.2.at 3 (v := vi y.s.day) rfl
      have x4 := HN.out.2.at 4 (v := .slice y.ra y.s.reads.length y.rc) rfl
      go_wp2_with fail
      refine (refFault_any y _ (HOK.out.next HN.out.1) HFW.out).mono ?_
      rintro e w2 ⟨rfl, hb1⟩
      have HN2 := Lib.hid (And.intro (newer_trans HN.out.1 hb1) (HN.out.2.below hb1 HN.out.2.lt))
      clear hb1 HN x0 x1 x2 x3 x4
      have x0 := HN2.out.2.at 0 (v := .slice y.sa y.s.spots.length y.sc) rfl
      have x1 := HN2.out.2.at 1 (v := vi y.s.strain) rfl
      have x2 := HN2.out.2.at 2 (v := .slice y.ta y.s.tools.length y.tc) rfl
      have x3 := HN2.out.2.at 3 (v := vi y.s.day) rfl
      have x4 := HN2.out.2.at 4 (v := .slice y.ra y.s.reads.length y.rc) rfl
      go_wp2_with fail
      refine (HTH.out _).mono ?_
      rintro e w3 ⟨rfl, hb1⟩
      have HN3 := Lib.hid (newer_trans HN2.out.1 hb1)
      clear hb1
      go_wp2_with fail
      go_ret
      exact ⟨⟨true, rfl, fun _ => ⟨HTT.out, fun h => absurd h he⟩, HN3.out⟩⟩
    case pos =>
      have hsd := err_iff.1 he
      have HSD := Lib.hid hsd
      have h6 := hsd.spots
      have h8 := hsd.few
      obtain ⟨pz, hpz⟩ : ∃ p, y.s.spots[0]? = some p := ⟨_, List.getElem?_eq_getElem (by omega)⟩
      obtain ⟨sb, so, es, -⟩ := row4 HOK.out.sp hpz
      have HES := Lib.hid es
      clear hpz es hsd
      go_enter Try.func30, Try.ntmps30
      go_wp2_with fail
      refine (HTH.out _).mono ?_
      rintro e w1 ⟨rfl, hb1⟩
      have HN := Lib.hid (And.intro (newer_trans HN0.out.1 hb1) (HN0.out.2.below hb1 HN0.out.2.lt))
      clear hb1 HN0 x0 x1 x2 x3 x4
      have x0 := HN.out.2.at 0 (v := .slice y.sa y.s.spots.length y.sc) rfl
      have x1 := HN.out.2.at 1 (v := vi y.s.strain) rfl
      have x2 := HN.out.2.at 2 (v := .slice y.ta y.s.tools.length y.tc) rfl
      have x3 := HN.out.2.at 3 (v := vi y.s.day) rfl
      have x4 := HN.out.2.at 4 (v := .slice y.ra y.s.reads.length y.rc) rfl
      go_wp2_with fail
      refine (refFault_any y _ (HOK.out.next HN.out.1) HFW.out).mono ?_
      rintro e w2 ⟨rfl, hb1⟩
      have HN2 := Lib.hid (And.intro (newer_trans HN.out.1 hb1) (HN.out.2.below hb1 HN.out.2.lt))
      clear hb1 HN x0 x1 x2 x3 x4
      go_wp2_with fail
      try go_frame
      go_loopw [3] (fun s3 wr => ∃ i : Nat, i ≤ y.s.spots.length ∧ s3 = vi i ∧ newer w wr ∧ Whole wr w.heap.size 26 (smC y)) (fun s3 _ => y.s.spots.length - (intOf s3).toNat)
      case atStart => exact ⟨0, Nat.zero_le _, rfl, HN2.out.1, HN2.out.2⟩
      case round =>
        obtain ⟨i, hi, rfl, hn3, hx3⟩ := hrel
        have HN3 := Lib.hid (And.intro hn3 hx3)
        have x0 := hx3.at 0 (v := .slice y.sa y.s.spots.length y.sc) rfl
        have x1 := hx3.at 1 (v := vi y.s.strain) rfl
        have x2 := hx3.at 2 (v := .slice y.ta y.s.tools.length y.tc) rfl
        have x3 := hx3.at 3 (v := vi y.s.day) rfl
        have x4 := hx3.at 4 (v := .slice y.ra y.s.reads.length y.rc) rfl
        rw [HES.out] at x0
        by_cases hlt : i < y.s.spots.length
        · have hlti : (i : Int) < y.s.spots.length := by omega
          obtain ⟨p, hp⟩ : ∃ p, y.s.spots[i]? = some p := ⟨_, List.getElem?_eq_getElem hlt⟩
          obtain ⟨b4, o4, e4, -, p0, p1, p2, p3⟩ := row4 (HOK.out.next hn3).sp hp
          rw [HES.out] at e4
          injection e4 with e4
          injection e4 with e5 e6
          subst e5 e6
          have hna := newer_allocH wr (.cells (spC p) 73)
          have HN4 := Lib.hid (And.intro (newer_trans hn3 hna) (hx3.below hna hx3.lt))
          obtain ⟨a, ha⟩ : ∃ a, IntKind.i64.wrap (p.x.hi - p.x.lo) = a := ⟨_, rfl⟩
          obtain ⟨a1, ha1⟩ : ∃ a1, IntKind.i64.wrap (a + 1) = a1 := ⟨_, rfl⟩
          obtain ⟨b, hb⟩ : ∃ b, IntKind.i64.wrap (p.y.hi - p.y.lo) = b := ⟨_, rfl⟩
          obtain ⟨b1, hb1⟩ : ∃ b1, IntKind.i64.wrap (b + 1) = b1 := ⟨_, rfl⟩
          obtain ⟨nv, hnv⟩ : ∃ n, IntKind.i64.wrap (a1 * b1) = n := ⟨_, rfl⟩
          have y0 : (wr.alloc (.cells (spC p) 73)).cell? ⟨w.heap.size, 0, none⟩ = some (.slice (some ⟨sb, so, none⟩) y.s.spots.length y.sc) := keep_cell x0 hna
          clear hn3 hx3 hna hp
          by_cases h9 : 9 < nv
          · by_cases hl1 : 1 < y.s.spots.length
            · have hl1i : (1 : Int) < (y.s.spots.length : Int) := by omega
              go_wp2_with fail
              go_ret
              exact ⟨⟨false, rfl, fun h => Bool.noConfusion h, HN4.out.1⟩⟩
            · have hl1i : ¬ (1 : Int) < (y.s.spots.length : Int) := by omega
              by_cases h49 : 49 < nv
              · go_wp2_with fail
                go_ret
                exact ⟨⟨false, rfl, fun h => Bool.noConfusion h, HN4.out.1⟩⟩
              · go_wp2_with fail
                go_roundw
                case rel => exact ⟨i + 1, by omega, by go_num, HN4.out.1, HN4.out.2⟩
                case measure => simp [intOf]; omega
          · go_wp2_with fail
            go_roundw
            case rel => exact ⟨i + 1, by omega, by go_num, HN4.out.1, HN4.out.2⟩
            case measure => simp [intOf]; omega
        · have hlti : ¬ (i : Int) < y.s.spots.length := by omega
          clear hn3 hx3
          go_wp2_with fail
          try go_frame
          clear x0 x1 x2 x3 x4
          go_loopw [6] (fun s6 wr => ∃ i : Nat, i ≤ y.s.tools.length ∧ s6 = vi i ∧ newer w wr ∧ Whole wr w.heap.size 26 (smC y)) (fun s6 _ => y.s.tools.length - (intOf s6).toNat)
          case atStart => exact ⟨0, Nat.zero_le _, rfl, HN3.out.1, HN3.out.2⟩
          case round =>
            clear HN3 hlt hlti
            obtain ⟨i, hi, rfl, hn3, hx3⟩ := hrel
            have HN3 := Lib.hid (And.intro hn3 hx3)
            have x0 := hx3.at 0 (v := .slice y.sa y.s.spots.length y.sc) rfl
            have x1 := hx3.at 1 (v := vi y.s.strain) rfl
            have x2 := hx3.at 2 (v := .slice y.ta y.s.tools.length y.tc) rfl
            have x3 := hx3.at 3 (v := vi y.s.day) rfl
            have x4 := hx3.at 4 (v := .slice y.ra y.s.reads.length y.rc) rfl
            by_cases hlt : i < y.s.tools.length
            · have hlti : (i : Int) < y.s.tools.length := by omega
              obtain ⟨t, htt⟩ : ∃ t, y.s.tools[i]? = some t := ⟨_, List.getElem?_eq_getElem hlt⟩
              obtain ⟨b7, o7, e7, -, t0, t1, t2, t3, t4, t5, t6⟩ := row7 (HOK.out.next hn3).tl htt
              rw [e7] at x2
              have HTO := Lib.hid (HSD.out.tool t (List.mem_of_getElem? htt))
              clear htt e7 hn3 hx3
              go_upto_region 14 with fail
              have hna := newer_allocH wr (.cells (tlC t) 43)
              obtain ⟨tb, htb⟩ : ∃ v, v = wr.heap.size := ⟨_, rfl⟩
              rw [← htb]
              refine genQ (fun X => newer w X ∧ Whole X w.heap.size 26 (smC y) ∧ Whole X tb 43 (tlC t)) ⟨newer_trans HN3.out.1 hna, HN3.out.2.below hna HN3.out.2.lt, by rw [htb]; exact Whole.made _ _ _⟩ ?_
              clear hna htb t0 t1 t2 t3 t4 t5 t6 x0 x1 x2 x3 x4 HN3
              rintro w3 ⟨hn3, hx3, ht3⟩
              have HN3 := Lib.hid (And.intro hn3 hx3)
              have x3 := hx3.at 3 (v := vi y.s.day) rfl
              have t0 := ht3.at 0 (v := vi t.spot) rfl
              have t1 := ht3.at 1 (v := vi t.a) rfl
              have t2 := ht3.at 2 (v := vi t.b) rfl
              have t3 := ht3.at 3 (v := vi t.turn) rfl
              have t4 := ht3.at 4 (v := vi t.err) rfl
              have t5 := ht3.at 5 (v := vi t.drift) rfl
              have t6 := ht3.at 6 (v := vi t.since) rfl
              clear hn3 hx3 ht3
              by_cases hT : t.turn = 0
              · skip
                refine wp_words (by kernel_rfl) (region_told_u 11 (by kernel_rfl) (by kernel_rfl) [false, false, false, false, true, true, true, true, true, true, true] (fun W => Below w3.heap.size w3 W) newer [vIs (.pointer (some ⟨tb, 3, none⟩)), vIs (vi t.turn), vIs (.bool false), vIs (.bool false), vIs (undef), vIs (undef), vIs (undef), vIs (undef), vIs (undef), vIs (undef), vIs (undef)] ⟨rfl, rfl, rfl, rfl, (fun v W h => by obtain rfl : v = _ := h; simp), (fun v W h => by obtain rfl : v = _ := h; simp), (fun v W h => by obtain rfl : v = _ := h; simp), (fun v W h => by obtain rfl : v = _ := h; simp), (fun v W h => by obtain rfl : v = _ := h; simp), (fun v W h => by obtain rfl : v = _ := h; simp), (fun v W h => by obtain rfl : v = _ := h; simp), trivial⟩ ⟨(fun h => Bool.noConfusion (show false = true from h)), (fun h => Bool.noConfusion (show false = true from h)), (fun h => Bool.noConfusion (show false = true from h)), (fun h => Bool.noConfusion (show false = true from h)), (fun _ _ => rfl), (fun _ _ => rfl), (fun _ _ => rfl), (fun _ _ => rfl), (fun _ _ => rfl), (fun _ _ => rfl), (fun _ _ => rfl), trivial⟩ (fun h k => newer_trans h k) (pickD_stable _ ⟨vIs_st, vIs_st, vIs_st, vIs_st, vIs_st, vIs_st, vIs_st, vIs_st, vIs_st, vIs_st, vIs_st, trivial⟩) (Below.refl _ w3).drew (Below.refl _ _) ?_ ?_)
                · refine ⟨.inr ?_, .inr ?_, .inr ?_, .inr ?_, .inl rfl, .inl rfl, .inl rfl, .inl rfl, .inl rfl, .inl rfl, .inl rfl, trivial⟩
                  · intro a W hG hR hO hp
                    have h7 := hO.slot 7 (by kernel_rfl)
                    refine kY (v := .pointer (some ⟨tb, 3, none⟩)) hG rfl ?_
                    simp [slotOf] at h7
                    simp [execOp, go_sem, h7]
                  · intro a W hG hR hO hp
                    have h71 : slotOf a 71 = .pointer (some ⟨tb, 3, none⟩) := hp.1
                    have c0 := keep_cell t3 hG
                    refine kY (v := vi t.turn) hG rfl ?_
                    simp [slotOf] at h71
                    simp [execOp, go_sem, h71, c0]
                  · intro a W hG hR hO hp
                    have h72 : slotOf a 72 = vi t.turn := hp.1
                    refine kY (v := .bool false) hG rfl ?_
                    simp [slotOf] at h72
                    simp [execOp, go_sem, h72, hT]
                  · exact fun a W hG _ _ hp => kM 73 rfl hp.1 rfl hG
                · intro w4 hG hR
                  rintro _ rfl _ rfl _ rfl _ rfl _ rfl _ rfl _ rfl _ rfl _ rfl _ rfl _ rfl
                  change wpList _ _ _ _ _ _
                  simp only [Act.put, List.setIfInBounds_toArray, List.set_cons_zero, List.set_cons_succ, List.drop_succ_cons, List.drop_zero]
                  have HN3 := Lib.hid (And.intro (newer_trans HN3.out.1 hG) (HN3.out.2.below hG HN3.out.2.lt))
                  clear hG x3 t0 t1 t2 t3 t4 t5 t6
                  go_wp2_with fail
                  go_roundw
                  case rel => exact ⟨i + 1, by omega, by go_num, HN3.out.1, HN3.out.2⟩
                  case measure => simp [intOf]; omega
              · have HOF := Lib.hid (fun W => refOff_any t y.s.day W (by have := HTO.out.err; omega) (by have := HTO.out.drift; omega) (by have := HTO.out.since; have := HSD.out.day; omega) (by have := HSD.out.day; omega))
                obtain ⟨ofv, hofv⟩ : ∃ q, q = offN t y.s.day := ⟨_, rfl⟩
                rw [← hofv] at HOF
                clear hofv
                refine wp_words (by kernel_rfl) (region_told_u 11 (by kernel_rfl) (by kernel_rfl) [false, false, false, false, false, false, false, false, false, false, false] (fun W => Below w3.heap.size w3 W) newer [vIs (.pointer (some ⟨tb, 3, none⟩)), vIs (vi t.turn), vIs (.bool true), vIs (.bool true), vIs (tlV t), vIs (.pointer (some ⟨w.heap.size, 3, none⟩)), vIs (vi y.s.day), vIs (vi ofv), vIs (.pointer (some ⟨tb, 3, none⟩)), vIs (vi t.turn), vIs (.bool (decide (t.turn < ofv)))] ⟨rfl, rfl, rfl, rfl, (fun v W h => by obtain rfl : v = _ := h; rfl), (fun v W h => by obtain rfl : v = _ := h; rfl), (fun v W h => by obtain rfl : v = _ := h; rfl), (fun v W h => by obtain rfl : v = _ := h; rfl), (fun v W h => by obtain rfl : v = _ := h; rfl), (fun v W h => by obtain rfl : v = _ := h; rfl), (fun v W h => by obtain rfl : v = _ := h; rfl), trivial⟩ ⟨(fun h => Bool.noConfusion (show false = true from h)), (fun h => Bool.noConfusion (show false = true from h)), (fun h => Bool.noConfusion (show false = true from h)), (fun h => Bool.noConfusion (show false = true from h)), (fun h => Bool.noConfusion (show false = true from h)), (fun h => Bool.noConfusion (show false = true from h)), (fun h => Bool.noConfusion (show false = true from h)), (fun h => Bool.noConfusion (show false = true from h)), (fun h => Bool.noConfusion (show false = true from h)), (fun h => Bool.noConfusion (show false = true from h)), (fun h => Bool.noConfusion (show false = true from h)), trivial⟩ (fun h k => newer_trans h k) (pickD_stable _ ⟨vIs_st, vIs_st, vIs_st, vIs_st, vIs_st, vIs_st, vIs_st, vIs_st, vIs_st, vIs_st, vIs_st, trivial⟩) (Below.refl _ w3).drew (Below.refl _ _) ?_ ?_)
                · refine ⟨.inr ?_, .inr ?_, .inr ?_, .inr ?_, .inr ?_, .inr ?_, .inr ?_, .inr ?_, .inr ?_, .inr ?_, .inr ?_, trivial⟩
                  · intro a W hG hR hO hp
                    have h7 := hO.slot 7 (by kernel_rfl)
                    refine kY (v := .pointer (some ⟨tb, 3, none⟩)) hG rfl ?_
                    simp [slotOf] at h7
                    simp [execOp, go_sem, h7]
                  · intro a W hG hR hO hp
                    have h71 : slotOf a 71 = .pointer (some ⟨tb, 3, none⟩) := hp.1
                    have c0 := keep_cell t3 hG
                    refine kY (v := vi t.turn) hG rfl ?_
                    simp [slotOf] at h71
                    simp [execOp, go_sem, h71, c0]
                  · intro a W hG hR hO hp
                    have h72 : slotOf a 72 = vi t.turn := hp.1
                    refine kY (v := .bool true) hG rfl ?_
                    simp [slotOf] at h72
                    simp [execOp, go_sem, h72, hT]
                  · exact fun a W hG _ _ hp => kM 73 rfl hp.1 rfl hG
                  · intro a W hG hR hO hp
                    have h7 := hO.slot 7 (by kernel_rfl)
                    have c0 := keep_cell t0 hG
                    have c1 := keep_cell t1 hG
                    have c2 := keep_cell t2 hG
                    have c3 := keep_cell t3 hG
                    have c4 := keep_cell t4 hG
                    have c5 := keep_cell t5 hG
                    have c6 := keep_cell t6 hG
                    refine kY (v := tlV t) hG rfl ?_
                    simp [slotOf] at h7
                    simp [execOp, go_sem, h7, c0, c1, c2, c3, c4, c5, c6]
                  · intro a W hG hR hO hp
                    have h1 := hO.slot 1 (by kernel_rfl)
                    refine kY (v := .pointer (some ⟨w.heap.size, 3, none⟩)) hG rfl ?_
                    simp [slotOf] at h1
                    simp [execOp, go_sem, h1]
                  · intro a W hG hR hO hp
                    have h76 : slotOf a 76 = .pointer (some ⟨w.heap.size, 3, none⟩) := hp.1
                    have c0 := keep_cell x3 hG
                    refine kY (v := vi y.s.day) hG rfl ?_
                    simp [slotOf] at h76
                    simp [execOp, go_sem, h76, c0]
                  · intro a W hG hR hO hp
                    have h75 : slotOf a 75 = tlV t := hp.1
                    have h77 : slotOf a 77 = vi y.s.day := hp.2.1
                    refine wp_enters (f := 22) (args := #[tlV t, vi y.s.day]) ?_ ((HOF.out W).mono ?_)
                    · simp [slotOf] at h75 h77
                      simp [go_sem, h75, h77]
                    · rintro e w' ⟨rfl, hb⟩
                      exact ⟨_, rfl, _, rfl, rfl, hb, below_next hG hb⟩
                  · intro a W hG hR hO hp
                    have h7 := hO.slot 7 (by kernel_rfl)
                    refine kY (v := .pointer (some ⟨tb, 3, none⟩)) hG rfl ?_
                    simp [slotOf] at h7
                    simp [execOp, go_sem, h7]
                  · intro a W hG hR hO hp
                    have h79 : slotOf a 79 = .pointer (some ⟨tb, 3, none⟩) := hp.1
                    have c0 := keep_cell t3 hG
                    refine kY (v := vi t.turn) hG rfl ?_
                    simp [slotOf] at h79
                    simp [execOp, go_sem, h79, c0]
                  · intro a W hG hR hO hp
                    have h78 : slotOf a 78 = vi ofv := hp.1
                    have h80 : slotOf a 80 = vi t.turn := hp.2.1
                    refine kY (v := .bool (decide (t.turn < ofv))) hG rfl ?_
                    simp [slotOf] at h78 h80
                    simp [execOp, go_sem, h78, h80]
                · intro w4 hG hR
                  rintro _ rfl _ rfl _ rfl _ rfl _ rfl _ rfl _ rfl _ rfl _ rfl _ rfl _ rfl
                  change wpList _ _ _ _ _ _
                  simp only [Act.put, List.setIfInBounds_toArray, List.set_cons_zero, List.set_cons_succ, List.drop_succ_cons, List.drop_zero]
                  have HN3 := Lib.hid (And.intro (newer_trans HN3.out.1 hG) (HN3.out.2.below hG HN3.out.2.lt))
                  clear hG x3 t0 t1 t2 t3 t4 t5 t6
                  by_cases hgt : t.turn < ofv
                  · go_wp2_with fail
                    go_ret
                    exact ⟨⟨false, rfl, fun h => Bool.noConfusion h, HN3.out.1⟩⟩
                  · go_wp2_with fail
                    go_roundw
                    case rel => exact ⟨i + 1, by omega, by go_num, HN3.out.1, HN3.out.2⟩
                    case measure => simp [intOf]; omega
            · have hlti : ¬ (i : Int) < y.s.tools.length := by omega
              clear hn3 hx3
              by_cases h3 : y.s.spots.length ≤ 3
              · have h3i : (y.s.spots.length : Int) ≤ 3 := by omega
                by_cases h3t : y.s.tools.length ≤ 3
                · have h3ti : (y.s.tools.length : Int) ≤ 3 := by omega
                  go_wp2_with fail
                  go_ret
                  exact ⟨⟨true, rfl, fun _ => ⟨HTT.out, fun _ => ⟨h3, h3t⟩⟩, HN3.out.1⟩⟩
                · have h3ti : ¬ (y.s.tools.length : Int) ≤ 3 := by omega
                  go_wp2_with fail
                  go_ret
                  exact ⟨⟨false, rfl, fun h => Bool.noConfusion h, HN3.out.1⟩⟩
              · have h3i : ¬ (y.s.spots.length : Int) ≤ 3 := by omega
                go_wp2_with fail
                go_ret
                exact ⟨⟨false, rfl, fun h => Bool.noConfusion h, HN3.out.1⟩⟩

end Go.Proofs.Ytpmafnifgegfbaa
