/- The error of stakes, before whole turns are asked. -/
import Derived.Test.YtpmafnifgegfbaaCE
import Derived.Test.YtpmafnifgegfbaaAF
namespace Go.Proofs.Ytpmafnifgegfbaa
open Go.RowKit Go.Shelf Go.Deep

set_option maxRecDepth 100000 in
set_option maxHeartbeats 4000000 in
theorem staked_any (y : Sm) (ts : List Tl) (A : Option Addr) (c : Nat) (w : World) (hok : SmOk y w) (few : SmFew y) (h10 : ts.length ≤ 10) (hts : Row tlL 7 w w.heap.size A ts) : Calls Try.prog 52 #[smV y, .slice A ts.length c] w fun e w' => e = .returned (vi (stakeE y.s ts)) ∧ newer w w' := by
  have hnw := newer_allocH w (.cells (smC y) 26)
  have hbx := Whole.made w 26 (smC y)
  have HC := Lib.hid (refFault_any y _ (hok.next hnw) few)
  have HB0 := Lib.hid (And.intro hnw hbx)
  have HTS := Lib.hid hts
  have h6 : y.s.spots.length ≤ 1000000 := by have := few.sp; omega
  have HRT0 := Lib.hid (fun (t : Tl) W => refTool_any y t W h6)
  have x0 := hbx.at 0 (v := .slice y.sa y.s.spots.length y.sc) rfl
  have x1 := hbx.at 1 (v := vi y.s.strain) rfl
  have x2 := hbx.at 2 (v := .slice y.ta y.s.tools.length y.tc) rfl
  have x3 := hbx.at 3 (v := vi y.s.day) rfl
  have x4 := hbx.at 4 (v := .slice y.ra y.s.reads.length y.rc) rfl
  clear hnw hbx hok few hts h6
  by_cases he : errN y.s = 0
  case neg =>
    have HE : Hid (stakeE y.s ts = errN y.s) := Lib.hid (by unfold stakeE; rw [if_neg he])
    rw [HE.out]
    obtain ⟨p, hp⟩ : ∃ q, q = errN y.s := ⟨_, rfl⟩
    rw [← hp] at HC he ⊢
    clear hp
    go_enter Try.func52, Try.ntmps52
    go_wp2_with fail
    refine (HC.out).mono ?_
    rintro e w1 ⟨rfl, hb⟩
    have HN1 := Lib.hid (newer_trans HB0.out.1 hb)
    clear hb HC x0 x1 x2 x3 x4
    go_wp2_with fail
    go_ret
    exact ⟨rfl, HN1.out⟩
  case pos =>
    rw [he] at HC
    have HE0 := Lib.hid he
    clear he
    cases hn : inB ts.length 1 8 with
    | false =>
      have HE : Hid (stakeE y.s ts = 2) := Lib.hid (by unfold stakeE; rw [if_pos HE0.out, if_neg (by rw [hn]; decide)])
      rw [HE.out]
      go_enter Try.func52, Try.ntmps52
      go_wp2_with fail
      refine (HC.out).mono ?_
      rintro e w1 ⟨rfl, hb⟩
      have HN1 := Lib.hid (newer_trans HB0.out.1 hb)
      clear hb HC x0 x1 x2 x3 x4
      go_wp2_with fail
      refine (in_any (ts.length : Int) 1 8 w1).mono ?_
      rintro e w2 ⟨rfl, hw2⟩
      subst hw2
      rw [hn]
      go_wp2_with fail
      go_ret
      exact ⟨rfl, HN1.out⟩
    | true =>
      have HE : Hid (stakeE y.s ts = if ts.all (stkB y.s) = true then 0 else 1) := Lib.hid (by unfold stakeE; rw [if_pos HE0.out, if_pos hn])
      have HNB := Lib.hid hn
      obtain ⟨n, hnn⟩ : ∃ n, n = ts.length := ⟨_, rfl⟩
      rw [← hnn] at hn h10 ⊢
      have HNN := Lib.hid hnn
      clear hnn
      go_enter Try.func52, Try.ntmps52
      go_wp2_with fail
      refine (HC.out).mono ?_
      rintro e w1 ⟨rfl, hb⟩
      have HN1 := Lib.hid (And.intro (newer_trans HB0.out.1 hb) (HB0.out.2.below hb HB0.out.2.lt))
      clear hb HC x0 x1 x2 x3 x4
      go_wp2_with fail
      refine (in_any (n : Int) 1 8 w1).mono ?_
      rintro e w2 ⟨rfl, hw2⟩
      subst hw2
      rw [hn]
      clear hn
      obtain ⟨sb, hsb⟩ : ∃ q, q = w.heap.size := ⟨_, rfl⟩
      rw [← hsb] at HN1
      try rw [← hsb]
      clear hsb
      go_wp2_with fail
      try go_frame
      go_loopw [6] (fun s6 wr => ∃ k : Nat, k ≤ n ∧ s6 = vi k ∧ (ts.take k).all (stkB y.s) = true ∧ newer w1 wr) (fun s6 _ => n - (intOf s6).toNat)
      case atStart => exact ⟨0, Nat.zero_le _, rfl, rfl, newer_refl _⟩
      case round =>
        obtain ⟨k, hk, rfl, hall, hnw⟩ := hrel
        have HW := Lib.hid (And.intro hnw hall)
        by_cases hlt : k < n
        · have hkn : (k : Int) < n := by omega
          obtain ⟨t, htk⟩ : ∃ t, ts[k]? = some t := ⟨_, List.getElem?_eq_getElem (by rw [← HNN.out]; exact hlt)⟩
          obtain ⟨ab, ao, rfl, -, t0, t1, t2, t3, t4, t5, t6⟩ := row7 (HTS.out.below (newer_trans HN1.out.1 hnw)) htk
          have hx := HN1.out.2.below hnw HN1.out.2.lt
          have x0 := hx.at 0 (v := .slice y.sa y.s.spots.length y.sc) rfl
          have x1 := hx.at 1 (v := vi y.s.strain) rfl
          have x2 := hx.at 2 (v := .slice y.ta y.s.tools.length y.tc) rfl
          have x3 := hx.at 3 (v := vi y.s.day) rfl
          have x4 := hx.at 4 (v := .slice y.ra y.s.reads.length y.rc) rfl
          have HRT := Lib.hid (fun W => HRT0.out t W)
          have HTT := Lib.hid htk
          have HLT := Lib.hid hlt
          have HSK : Hid (stkB y.s t = (tlB y.s.spots.length y.s.day t && decide (t.turn = 0))) := Lib.hid rfl
          cases hb : tlB y.s.spots.length y.s.day t with
          | false =>
            rw [hb] at HRT HSK
            clear hnw hx hall htk hb
            go_wp2_with fail
            go_upto_region 9 with fail
            refine wp_words (by kernel_rfl) (region_told_u 14 (by kernel_rfl) (by kernel_rfl) [false, false, false, false, false, false, false, false, true, true, true, true, true, true] (fun W => Below wr.heap.size wr W) newer [vIs (smV y), vIs (.slice (some ⟨ab, ao, none⟩) n c), vIs (.int .i64 k), vIs (.pointer (some ⟨ab, ao + k * 7, none⟩)), vIs (tlV t), vIs (.bool false), vIs (.bool true), vIs (.bool true), vIs (undef), vIs (undef), vIs (undef), vIs (undef), vIs (undef), vIs (undef)] ⟨rfl, rfl, rfl, rfl, rfl, rfl, rfl, rfl, (fun v W h => by obtain rfl : v = _ := h; simp), (fun v W h => by obtain rfl : v = _ := h; simp), (fun v W h => by obtain rfl : v = _ := h; simp), (fun v W h => by obtain rfl : v = _ := h; simp), (fun v W h => by obtain rfl : v = _ := h; simp), (fun v W h => by obtain rfl : v = _ := h; simp), trivial⟩ ⟨(fun h => Bool.noConfusion (show false = true from h)), (fun h => Bool.noConfusion (show false = true from h)), (fun h => Bool.noConfusion (show false = true from h)), (fun h => Bool.noConfusion (show false = true from h)), (fun h => Bool.noConfusion (show false = true from h)), (fun h => Bool.noConfusion (show false = true from h)), (fun h => Bool.noConfusion (show false = true from h)), (fun h => Bool.noConfusion (show false = true from h)), (fun _ _ => rfl), (fun _ _ => rfl), (fun _ _ => rfl), (fun _ _ => rfl), (fun _ _ => rfl), (fun _ _ => rfl), trivial⟩ (fun h k => newer_trans h k) (pickD_stable _ ⟨vIs_st, vIs_st, vIs_st, vIs_st, vIs_st, vIs_st, vIs_st, vIs_st, vIs_st, vIs_st, vIs_st, vIs_st, vIs_st, vIs_st, trivial⟩) (Below.refl _ wr).drew (Below.refl _ _) ?_ ?_)
            · refine ⟨.inr ?_, .inr ?_, .inr ?_, .inr ?_, .inr ?_, .inr ?_, .inr ?_, .inr ?_, .inl rfl, .inl rfl, .inl rfl, .inl rfl, .inl rfl, .inl rfl, trivial⟩
              · intro a W hG hR hO hp
                have h2 := hO.slot 2 (by kernel_rfl)
                have c0 := keep_cell x0 hG
                have c1 := keep_cell x1 hG
                have c2 := keep_cell x2 hG
                have c3 := keep_cell x3 hG
                have c4 := keep_cell x4 hG
                refine kY (v := smV y) hG rfl ?_
                simp [slotOf] at h2
                simp [execOp, go_sem, h2, c0, c1, c2, c3, c4]
              · exact fun a W hG _ hO _ => kM 1 rfl (hO.slot 1 (by kernel_rfl)) rfl hG
              · exact fun a W hG _ hO _ => kM 6 rfl (hO.slot 6 (by kernel_rfl)) rfl hG
              · intro a W hG hR hO hp
                have h23 : slotOf a 23 = .slice (some ⟨ab, ao, none⟩) n c := hp.1
                have h24 : slotOf a 24 = .int .i64 k := hp.2.1
                refine kY (v := .pointer (some ⟨ab, ao + k * 7, none⟩)) hG rfl ?_
                simp [slotOf] at h23 h24
                simp [execOp, go_sem, h23, h24, hkn]
              · intro a W hG hR hO hp
                have h25 : slotOf a 25 = .pointer (some ⟨ab, ao + k * 7, none⟩) := hp.1
                have c0 := keep_cell t0 hG
                have c1 := keep_cell t1 hG
                have c2 := keep_cell t2 hG
                have c3 := keep_cell t3 hG
                have c4 := keep_cell t4 hG
                have c5 := keep_cell t5 hG
                have c6 := keep_cell t6 hG
                refine kY (v := tlV t) hG rfl ?_
                simp [slotOf] at h25
                simp [execOp, go_sem, h25, c0, c1, c2, c3, c4, c5, c6]
              · intro a W hG hR hO hp
                have h22 : slotOf a 22 = smV y := hp.1
                have h26 : slotOf a 26 = tlV t := hp.2.1
                refine wp_enters (f := 59) (args := #[smV y, tlV t]) ?_ ((HRT.out W).mono ?_)
                · simp [slotOf] at h22 h26
                  simp [go_sem, h22, h26]
                · rintro e w' ⟨rfl, hb⟩
                  exact ⟨_, rfl, _, rfl, rfl, hb, below_next hG hb⟩
              · intro a W hG hR hO hp
                have h27 : slotOf a 27 = .bool false := hp.1
                refine kY (v := .bool true) hG rfl ?_
                simp [slotOf] at h27
                simp [execOp, go_sem, h27]
              · exact fun a W hG _ _ hp => kM 28 rfl hp.1 rfl hG
            · intro w5 hG hR
              rintro _ rfl _ rfl _ rfl _ rfl _ rfl _ rfl _ rfl _ rfl _ rfl _ rfl _ rfl _ rfl _ rfl _ rfl
              change wpList _ _ _ _ _ _
              simp only [Act.put, List.setIfInBounds_toArray, List.set_cons_zero, List.set_cons_succ, List.drop_succ_cons, List.drop_zero]
              have H5 := Lib.hid (newer_trans HN1.out.1 (newer_trans HW.out.1 hG))
              clear hG x0 x1 x2 x3 x4 t0 t1 t2 t3 t4 t5 t6
              have HF : Hid (ts.all (stkB y.s) = false) := Lib.hid (List.all_eq_false.2 ⟨t, List.mem_of_getElem? HTT.out, by rw [HSK.out]; simp⟩)
              go_wp2_with fail
              go_ret
              exact ⟨by rw [HE.out, HF.out]; rfl, H5.out⟩
          | true =>
            rw [hb] at HRT HSK
            obtain ⟨T, hT⟩ : ∃ q, q = t.turn := ⟨_, rfl⟩
            have t3T := t3
            rw [← hT] at t3T HSK
            obtain ⟨nb, hnb⟩ : ∃ b, (T != 0) = b := ⟨_, rfl⟩
            have HND : Hid (stkB y.s t = !nb) := Lib.hid (by rw [HSK.out, ← hnb]; by_cases h : T = 0 <;> simp [h])
            clear hnw hx hall htk hb hT HSK
            go_wp2_with fail
            go_upto_region 9 with fail
            refine wp_words (by kernel_rfl) (region_told_u 14 (by kernel_rfl) (by kernel_rfl) [false, false, false, false, false, false, false, false, false, false, false, false, false, false] (fun W => Below wr.heap.size wr W) newer [vIs (smV y), vIs (.slice (some ⟨ab, ao, none⟩) n c), vIs (.int .i64 k), vIs (.pointer (some ⟨ab, ao + k * 7, none⟩)), vIs (tlV t), vIs (.bool true), vIs (.bool false), vIs (.bool false), vIs (.slice (some ⟨ab, ao, none⟩) n c), vIs (.int .i64 k), vIs (.pointer (some ⟨ab, ao + k * 7, none⟩)), vIs (.pointer (some ⟨ab, ao + k * 7 + 3, none⟩)), vIs (vi T), vIs (.bool nb)] ⟨rfl, rfl, rfl, rfl, rfl, rfl, rfl, rfl, (fun v W h => by obtain rfl : v = _ := h; rfl), (fun v W h => by obtain rfl : v = _ := h; rfl), (fun v W h => by obtain rfl : v = _ := h; rfl), (fun v W h => by obtain rfl : v = _ := h; rfl), (fun v W h => by obtain rfl : v = _ := h; rfl), (fun v W h => by obtain rfl : v = _ := h; rfl), trivial⟩ ⟨(fun h => Bool.noConfusion (show false = true from h)), (fun h => Bool.noConfusion (show false = true from h)), (fun h => Bool.noConfusion (show false = true from h)), (fun h => Bool.noConfusion (show false = true from h)), (fun h => Bool.noConfusion (show false = true from h)), (fun h => Bool.noConfusion (show false = true from h)), (fun h => Bool.noConfusion (show false = true from h)), (fun h => Bool.noConfusion (show false = true from h)), (fun h => Bool.noConfusion (show false = true from h)), (fun h => Bool.noConfusion (show false = true from h)), (fun h => Bool.noConfusion (show false = true from h)), (fun h => Bool.noConfusion (show false = true from h)), (fun h => Bool.noConfusion (show false = true from h)), (fun h => Bool.noConfusion (show false = true from h)), trivial⟩ (fun h k => newer_trans h k) (pickD_stable _ ⟨vIs_st, vIs_st, vIs_st, vIs_st, vIs_st, vIs_st, vIs_st, vIs_st, vIs_st, vIs_st, vIs_st, vIs_st, vIs_st, vIs_st, trivial⟩) (Below.refl _ wr).drew (Below.refl _ _) ?_ ?_)
            · refine ⟨.inr ?_, .inr ?_, .inr ?_, .inr ?_, .inr ?_, .inr ?_, .inr ?_, .inr ?_, .inr ?_, .inr ?_, .inr ?_, .inr ?_, .inr ?_, .inr ?_, trivial⟩
              · intro a W hG hR hO hp
                have h2 := hO.slot 2 (by kernel_rfl)
                have c0 := keep_cell x0 hG
                have c1 := keep_cell x1 hG
                have c2 := keep_cell x2 hG
                have c3 := keep_cell x3 hG
                have c4 := keep_cell x4 hG
                refine kY (v := smV y) hG rfl ?_
                simp [slotOf] at h2
                simp [execOp, go_sem, h2, c0, c1, c2, c3, c4]
              · exact fun a W hG _ hO _ => kM 1 rfl (hO.slot 1 (by kernel_rfl)) rfl hG
              · exact fun a W hG _ hO _ => kM 6 rfl (hO.slot 6 (by kernel_rfl)) rfl hG
              · intro a W hG hR hO hp
                have h23 : slotOf a 23 = .slice (some ⟨ab, ao, none⟩) n c := hp.1
                have h24 : slotOf a 24 = .int .i64 k := hp.2.1
                refine kY (v := .pointer (some ⟨ab, ao + k * 7, none⟩)) hG rfl ?_
                simp [slotOf] at h23 h24
                simp [execOp, go_sem, h23, h24, hkn]
              · intro a W hG hR hO hp
                have h25 : slotOf a 25 = .pointer (some ⟨ab, ao + k * 7, none⟩) := hp.1
                have c0 := keep_cell t0 hG
                have c1 := keep_cell t1 hG
                have c2 := keep_cell t2 hG
                have c3 := keep_cell t3 hG
                have c4 := keep_cell t4 hG
                have c5 := keep_cell t5 hG
                have c6 := keep_cell t6 hG
                refine kY (v := tlV t) hG rfl ?_
                simp [slotOf] at h25
                simp [execOp, go_sem, h25, c0, c1, c2, c3, c4, c5, c6]
              · intro a W hG hR hO hp
                have h22 : slotOf a 22 = smV y := hp.1
                have h26 : slotOf a 26 = tlV t := hp.2.1
                refine wp_enters (f := 59) (args := #[smV y, tlV t]) ?_ ((HRT.out W).mono ?_)
                · simp [slotOf] at h22 h26
                  simp [go_sem, h22, h26]
                · rintro e w' ⟨rfl, hb⟩
                  exact ⟨_, rfl, _, rfl, rfl, hb, below_next hG hb⟩
              · intro a W hG hR hO hp
                have h27 : slotOf a 27 = .bool true := hp.1
                refine kY (v := .bool false) hG rfl ?_
                simp [slotOf] at h27
                simp [execOp, go_sem, h27]
              · exact fun a W hG _ _ hp => kM 28 rfl hp.1 rfl hG
              · exact fun a W hG _ hO _ => kM 1 rfl (hO.slot 1 (by kernel_rfl)) rfl hG
              · exact fun a W hG _ hO _ => kM 6 rfl (hO.slot 6 (by kernel_rfl)) rfl hG
              · intro a W hG hR hO hp
                have h30 : slotOf a 30 = .slice (some ⟨ab, ao, none⟩) n c := hp.1
                have h31 : slotOf a 31 = .int .i64 k := hp.2.1
                refine kY (v := .pointer (some ⟨ab, ao + k * 7, none⟩)) hG rfl ?_
                simp [slotOf] at h30 h31
                simp [execOp, go_sem, h30, h31, hkn]
              · intro a W hG hR hO hp
                have h32 : slotOf a 32 = .pointer (some ⟨ab, ao + k * 7, none⟩) := hp.1
                refine kY (v := .pointer (some ⟨ab, ao + k * 7 + 3, none⟩)) hG rfl ?_
                simp [slotOf] at h32
                simp [execOp, go_sem, h32]
              · intro a W hG hR hO hp
                have h33 : slotOf a 33 = .pointer (some ⟨ab, ao + k * 7 + 3, none⟩) := hp.1
                have c0 := keep_cell t3T hG
                refine kY (v := vi T) hG rfl ?_
                simp [slotOf] at h33
                simp [execOp, go_sem, h33, c0]
              · intro a W hG hR hO hp
                have h34 : slotOf a 34 = vi T := hp.1
                refine kY (v := .bool nb) hG rfl ?_
                simp [slotOf] at h34
                simp [execOp, go_sem, h34, hnb]
            · intro w5 hG hR
              rintro _ rfl _ rfl _ rfl _ rfl _ rfl _ rfl _ rfl _ rfl _ rfl _ rfl _ rfl _ rfl _ rfl _ rfl
              change wpList _ _ _ _ _ _
              simp only [Act.put, List.setIfInBounds_toArray, List.set_cons_zero, List.set_cons_succ, List.drop_succ_cons, List.drop_zero]
              have H5 := Lib.hid (newer_trans HW.out.1 hG)
              clear hG x0 x1 x2 x3 x4 t0 t1 t2 t3 t4 t5 t6 t3T hnb
              cases nb with
              | true =>
                have HF : Hid (ts.all (stkB y.s) = false) := Lib.hid (List.all_eq_false.2 ⟨t, List.mem_of_getElem? HTT.out, by rw [HND.out]; decide⟩)
                go_wp2_with fail
                go_ret
                exact ⟨by rw [HE.out, HF.out]; rfl, newer_trans HN1.out.1 H5.out⟩
              | false =>
                have HF : Hid ((ts.take (k + 1)).all (stkB y.s) = true) := Lib.hid (by rw [List.take_add_one, HTT.out, List.all_append, HW.out.2]; simp [HND.out])
                go_wp2_with fail
                go_roundw
                case rel => exact ⟨k + 1, HLT.out, by go_num, HF.out, H5.out⟩
                case measure => simp [intOf]; omega
        · obtain rfl : k = n := by omega
          have hkn : ¬ (k : Int) < k := by omega
          have HF : Hid (ts.all (stkB y.s) = true) := Lib.hid (by have h := HW.out.2; rw [HNN.out, List.take_length] at h; exact h)
          clear hnw hall
          go_wp2_with fail
          go_ret
          exact ⟨by rw [HE.out, HF.out]; rfl, newer_trans HN1.out.1 HW.out.1⟩

end Go.Proofs.Ytpmafnifgegfbaa
