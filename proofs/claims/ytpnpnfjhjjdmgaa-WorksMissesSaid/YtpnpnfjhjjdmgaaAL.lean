/- WorksMisses, walked: it returns true, whatever the project and the plan. -/
import Derived.Test.YtpnpnfjhjjdmgaaAK
namespace Go.Proofs.Ytpnpnfjhjjdmgaa
open Go.ChangeShapes Go.WideShapes Go.ChangeAt Go.RowKit Go.Deep

set_option maxRecDepth 100000 in
set_option maxHeartbeats 8000000 in
theorem worksMisses_walk (p : Pm) (plan : List Int) (L : Option Addr) (lp : Nat) (w : World) (hok : PmOk p w) (hr : Row intL 1 w w.heap.size L plan) :
    Calls Try.prog 9 #[pmV p, .slice L plan.length lp] w fun e w' => e = .returned (.bool true) ∧ newer w w' := by
  have hnw := newer_allocH w (.cells (pmC p) 27)
  have hbx := Whole.made w 27 (pmC p)
  have HOK := Lib.hid hok
  have HR := Lib.hid hr
  have H0 := Lib.hid (And.intro hnw hbx)
  have HTH := Lib.hid (lawThin p _ (hok.next hnw))
  have x0 := hbx.at 0 (v := vi p.years) rfl
  have x1 := hbx.at 1 (v := vi p.slopes) rfl
  have x2 := hbx.at 2 (v := .slice p.wa p.ws.length p.wc) rfl
  have x3 := hbx.at 3 (v := .slice p.na p.ns.length p.nc) rfl
  have x4 := hbx.at 4 (v := .slice p.va p.vs.length p.vc) rfl
  have x5 := hbx.at 5 (v := .slice p.pa p.ps.length p.pc) rfl
  clear hnw hbx hok hr
  cases hth : thinP p.pj with
  | false =>
    rw [hth] at HTH
    clear hth
    go_enter Try.func9, Try.ntmps9
    go_wp2_with fail
    refine (HTH.out).mono ?_
    rintro e w1 ⟨rfl, hb⟩
    have HN := Lib.hid (newer_trans H0.out.1 hb)
    clear hb
    go_wp2_with (go_at_call 17; refine (wakes_any _).mono ?_; rintro e w' ⟨rfl, hwk⟩; have HWK := Lib.hid (newer_trans HN.out hwk); clear hwk)
    go_ret
    exact ⟨rfl, HWK.out⟩
  | true =>
    rw [hth] at HTH
    have HF := Lib.hid (thin_few hth)
    have HTP := Lib.hid hth
    clear hth
    by_cases hl : 15 < plan.length
    · have hli : (15 : Int) < plan.length := by omega
      clear hl
      go_enter Try.func9, Try.ntmps9
      go_wp2_with fail
      refine (HTH.out).mono ?_
      rintro e w1 ⟨rfl, hb⟩
      have HN := Lib.hid (newer_trans H0.out.1 hb)
      clear hb
      go_wp2_with (go_at_call 17; refine (wakes_any _).mono ?_; rintro e w' ⟨rfl, hwk⟩; have HWK := Lib.hid (newer_trans HN.out hwk); clear hwk)
      go_ret
      exact ⟨rfl, HWK.out⟩
    have hli : ¬ ((15 : Int) < plan.length) := by omega
    have HL := Lib.hid (show plan.length ≤ 1000 by omega)
    clear hl
    obtain ⟨ml, hml⟩ : ∃ ml, ml = missOut p.pj plan := ⟨_, rfl⟩
    obtain ⟨n, hn⟩ : ∃ n, n = ml.length := ⟨_, rfl⟩
    obtain ⟨E, hE⟩ : ∃ E, E = checkN p.pj plan := ⟨_, rfl⟩
    obtain ⟨sv, hsv⟩ : ∃ sv, sv = suffB p.pj plan := ⟨_, rfl⟩
    have HM := Lib.hid hml
    have HN := Lib.hid hn
    have HE := Lib.hid hE
    have HSV0 := Lib.hid hsv
    clear hml hn hE hsv
    go_enter Try.func9, Try.ntmps9
    go_wp2_with fail
    refine (HTH.out).mono ?_
    rintro e w1 ⟨rfl, hb⟩
    have H1 := Lib.hid (And.intro (newer_trans H0.out.1 hb) (H0.out.2.below hb H0.out.2.lt))
    clear hb H0 HTH x0 x1 x2 x3 x4 x5
    have x0 := H1.out.2.at 0 (v := vi p.years) rfl
    have x1 := H1.out.2.at 1 (v := vi p.slopes) rfl
    have x2 := H1.out.2.at 2 (v := .slice p.wa p.ws.length p.wc) rfl
    have x3 := H1.out.2.at 3 (v := .slice p.na p.ns.length p.nc) rfl
    have x4 := H1.out.2.at 4 (v := .slice p.va p.vs.length p.vc) rfl
    have x5 := H1.out.2.at 5 (v := .slice p.pa p.ps.length p.pc) rfl
    go_wp2_with fail
    refine (lawProject p w1 (HOK.out.next H1.out.1) HF.out).mono ?_
    rintro e w2 ⟨⟨p1, rfl, hj1, ho1, -⟩, hb⟩
    have H2 := Lib.hid (And.intro hj1 (And.intro ho1 (And.intro (newer_trans H1.out.1 hb) (H1.out.2.below hb H1.out.2.lt))))
    clear hb hj1 ho1 H1 hli x0 x1 x2 x3 x4 x5
    go_wp2_with fail
    refine (lawListO plan L lp w2 HL.out ((HR.out.below H2.out.2.2.1).more H2.out.2.2.1.size)).mono ?_
    rintro e w3 ⟨⟨L2, lp2, rfl, ho3⟩, hb⟩
    have HA := Lib.hid (missing_any p1 plan L2 lp2 w3 (H2.out.2.1.next hb) (thin_few (by rw [H2.out.1]; exact HTP.out)) HL.out (row_of_own (enc := intL) (size := 1) (by omega) (fun _ => rfl) ho3))
    unfold missed at HA
    rw [H2.out.1, ← HM.out, ← HN.out, ← HE.out] at HA
    have H3 := Lib.hid (And.intro (newer_trans H2.out.2.2.1 hb) (H2.out.2.2.2.below hb H2.out.2.2.2.lt))
    clear hb ho3 H2
    go_wp2_with fail
    refine (HA.out).mono ?_
    rintro e w4 ⟨A4, c4, rfl, hr4, hb⟩
    have H4 := Lib.hid (And.intro (newer_trans H3.out.1 hb) (And.intro (H3.out.2.below hb H3.out.2.lt) hr4))
    clear hb hr4 H3 HA
    have x0 := H4.out.2.1.at 0 (v := vi p.years) rfl
    have x1 := H4.out.2.1.at 1 (v := vi p.slopes) rfl
    have x2 := H4.out.2.1.at 2 (v := .slice p.wa p.ws.length p.wc) rfl
    have x3 := H4.out.2.1.at 3 (v := .slice p.na p.ns.length p.nc) rfl
    have x4 := H4.out.2.1.at 4 (v := .slice p.va p.vs.length p.vc) rfl
    have x5 := H4.out.2.1.at 5 (v := .slice p.pa p.ps.length p.pc) rfl
    go_wp2_with fail
    refine (lawProject p w4 (HOK.out.next H4.out.1) HF.out).mono ?_
    rintro e w5 ⟨⟨p2, rfl, hj2, ho2, hpc2⟩, hb⟩
    have H5 := Lib.hid (And.intro hj2 (And.intro ho2 (And.intro hpc2 (And.intro (newer_trans H4.out.1 hb) (And.intro (H4.out.2.1.below hb H4.out.2.1.lt) ((H4.out.2.2.below hb).more hb.size))))))
    clear hb hj2 ho2 hpc2 H4 x0 x1 x2 x3 x4 x5
    go_wp2_with fail
    refine (lawListO plan L lp w5 HL.out ((HR.out.below H5.out.2.2.2.1).more H5.out.2.2.2.1.size)).mono ?_
    rintro e w6 ⟨⟨L3, lp3, rfl, ho6⟩, hb⟩
    have HB := Lib.hid (suffices_any p2 plan L3 lp3 w6 (H5.out.2.1.next hb) (thin_few (by rw [H5.out.1]; exact HTP.out)) HL.out H5.out.2.2.1 (row_of_own (enc := intL) (size := 1) (by omega) (fun _ => rfl) ho6))
    rw [H5.out.1, ← HSV0.out] at HB
    have H6 := Lib.hid (And.intro (newer_trans H5.out.2.2.2.1 hb) (And.intro (H5.out.2.2.2.2.1.below hb H5.out.2.2.2.2.1.lt) ((H5.out.2.2.2.2.2.below hb).more hb.size)))
    clear hb ho6 H5
    go_wp2_with fail
    refine (HB.out).mono ?_
    rintro e w7 ⟨rfl, hb⟩
    have H6b := Lib.hid (And.intro (newer_trans H6.out.1 hb) (And.intro (H6.out.2.1.below hb H6.out.2.1.lt) ((H6.out.2.2.below hb).more hb.size)))
    clear hb H6 HB
    have x0 := H6b.out.2.1.at 0 (v := vi p.years) rfl
    have x1 := H6b.out.2.1.at 1 (v := vi p.slopes) rfl
    have x2 := H6b.out.2.1.at 2 (v := .slice p.wa p.ws.length p.wc) rfl
    have x3 := H6b.out.2.1.at 3 (v := .slice p.na p.ns.length p.nc) rfl
    have x4 := H6b.out.2.1.at 4 (v := .slice p.va p.vs.length p.vc) rfl
    have x5 := H6b.out.2.1.at 5 (v := .slice p.pa p.ps.length p.pc) rfl
    obtain ⟨f, hf⟩ : ∃ f, f = faultN p.pj := ⟨_, rfl⟩
    have HFE := Lib.hid hf
    have hRF := fun V hV => refFault p V (HOK.out.next hV) HF.out
    rw [← hf] at hRF
    have HRF := Lib.hid hRF
    clear hf hRF
    go_wp2_with fail
    refine (HRF.out _ H6b.out.1).mono ?_
    rintro e w8 ⟨rfl, hb⟩
    have H7 := Lib.hid (And.intro (newer_trans H6b.out.1 hb) (And.intro (H6b.out.2.1.below hb H6b.out.2.1.lt) ((H6b.out.2.2.below hb).more hb.size)))
    clear hb H6b x0 x1 x2 x3 x4 x5
    have x0 := H7.out.2.1.at 0 (v := vi p.years) rfl
    have x1 := H7.out.2.1.at 1 (v := vi p.slopes) rfl
    have x2 := H7.out.2.1.at 2 (v := .slice p.wa p.ws.length p.wc) rfl
    have x3 := H7.out.2.1.at 3 (v := .slice p.na p.ns.length p.nc) rfl
    have x4 := H7.out.2.1.at 4 (v := .slice p.va p.vs.length p.vc) rfl
    have x5 := H7.out.2.1.at 5 (v := .slice p.pa p.ps.length p.pc) rfl
    have HBADN : Hid (E ≠ 0 → n = 0 ∧ sv = false) := Lib.hid (fun h => by
      rw [HE.out] at h
      refine ⟨?_, ?_⟩
      · rw [HN.out, HM.out]
        unfold missOut
        rw [if_neg h]
        rfl
      · rw [HSV0.out]
        unfold suffB
        rw [decide_eq_false h]
        rfl)
    by_cases hf0 : f = 0
    case neg =>
      have hEf : E = f := by
        rw [HE.out, HFE.out]
        unfold checkN
        rw [if_neg (by rw [← HFE.out]; exact hf0)]
      subst hEf
      obtain ⟨e1, e2⟩ := HBADN.out hf0
      subst e1
      have b1 : (E == 0) = false := by simpa using hf0
      have b2 : (E != 0) = true := by simpa using hf0
      clear hf0
      go_wp2_with (go_at_call 17; refine (wakes_any _).mono ?_; rintro e w' ⟨rfl, hwk⟩; have HWK := Lib.hid (newer_trans H7.out.1 hwk); clear hwk)
      go_ret
      exact ⟨rfl, HWK.out⟩
    subst hf0
    have HP := Lib.hid (fault_ok HFE.out.symm)
    cases hpb : planB p.pj.works plan with
    | false =>
      have hE2 : E = 2 := by
        rw [HE.out]
        unfold checkN
        rw [if_pos HFE.out.symm, hpb]
        rfl
      subst hE2
      obtain ⟨e1, e2⟩ := HBADN.out (by decide)
      subst e1
      have HIP := Lib.hid (fun V hV => refIsPlan p plan L lp V (HOK.out.next hV) HL.out ((HR.out.below hV).more hV.size))
      rw [hpb] at HIP
      clear hpb
      go_wp2_with (first | (go_at_call 23; refine (HIP.out _ H7.out.1).mono ?_; rintro e w9 ⟨rfl, hb⟩; have H8 := Lib.hid (newer_trans H7.out.1 hb); clear hb) | (go_at_call 17; refine (wakes_any _).mono ?_; rintro e w' ⟨rfl, hwk⟩; have HWK := Lib.hid (newer_trans H8.out hwk); clear hwk))
      go_ret
      exact ⟨rfl, HWK.out⟩
    | true =>
      have hE0 : E = 0 := by
        rw [HE.out]
        unfold checkN
        rw [if_pos HFE.out.symm, hpb]
        rfl
      subst hE0
      have hmm : ml = missP p.pj plan := by rw [HM.out]; unfold missOut; rw [if_pos HE.out.symm]
      have HRM : Hid (∀ V, newer w V → Calls Try.prog 38 #[pmV p, .slice L plan.length lp] V fun e w' => (∃ A c, e = .returned (.slice A n c) ∧ Row intL 1 w' w'.heap.size A ml) ∧ newer V w') := Lib.hid (fun V hV => by
        rw [HN.out, hmm]
        exact refMissing p plan L lp V (HOK.out.next hV) HP.out hpb ((HR.out.below hV).more hV.size))
      have HAL0 := Lib.hid (fun V (hV : newer w V) => refAllowed p plan L lp V (HOK.out.next hV) HP.out hpb ((HR.out.below hV).more hV.size))
      have HIN : Hid (∀ V A B c d, Row intL 1 V V.heap.size A ml → Row intL 1 V V.heap.size B ml → Calls Try.prog 29 #[.slice A n c, .slice B n d] V fun e w' => e = .returned (.bool true) ∧ newer V w') := Lib.hid (fun V A B c d h1 h2 => by
        have hml : ml.length ≤ 1000 := by
          rw [hmm]
          unfold missP
          have := missK_len (missB p.pj.works plan) p.pj.needs p.pj.needs.length
          have h3 := HP.out.nn
          have h4 : p.pj.needs.length = p.ns.length := rfl
          omega
        have h := lawInts ml ml A B c d V hml hml h1 h2
        rw [decide_eq_true (rfl : ml = ml), ← HN.out] at h
        exact h)
      obtain ⟨alw, halw⟩ : ∃ alw, alw = allowB p.pj plan := ⟨_, rfl⟩
      have HAL := HAL0
      rw [← halw] at HAL
      have HS : Hid (sv = (decide (n = 0) && alw)) := Lib.hid (by
        rw [HSV0.out]
        unfold suffB
        rw [← HE.out, decide_eq_true (rfl : (0 : Int) = 0), halw, HN.out, hmm]
        rfl)
      have HIP := Lib.hid (fun V hV => refIsPlan p plan L lp V (HOK.out.next hV) HL.out ((HR.out.below hV).more hV.size))
      rw [hpb] at HIP
      clear hpb hmm halw HAL0
      go_upto_region 10 with (go_at_call 23; refine (HIP.out _ H7.out.1).mono ?_; rintro e w9 ⟨rfl, hb⟩; have H7b := Lib.hid (And.intro (newer_trans H7.out.1 hb) (And.intro (H7.out.2.1.below hb H7.out.2.1.lt) ((H7.out.2.2.below hb).more hb.size))); clear hb H7 x0 x1 x2 x3 x4 x5)
      have H7 := H7b
      clear H7b
      have x0 := H7.out.2.1.at 0 (v := vi p.years) rfl
      have x1 := H7.out.2.1.at 1 (v := vi p.slopes) rfl
      have x2 := H7.out.2.1.at 2 (v := .slice p.wa p.ws.length p.wc) rfl
      have x3 := H7.out.2.1.at 3 (v := .slice p.na p.ns.length p.nc) rfl
      have x4 := H7.out.2.1.at 4 (v := .slice p.va p.vs.length p.vc) rfl
      have x5 := H7.out.2.1.at 5 (v := .slice p.pa p.ps.length p.pc) rfl
      by_cases hn0 : n = 0
      · have HSV : Hid (sv = alw) := Lib.hid (by rw [HS.out, decide_eq_true hn0]; rfl)
        have e1 : ((n : Int) == 0) = true := by rw [beq_iff_eq]; omega
        have e2 := HSV.out
        clear hn0
        go_wp2_with (first | (go_at_call 38; refine (HRM.out _ H7.out.1).mono ?_; rintro e w8 ⟨⟨A8, c8, rfl, hr8⟩, hb⟩; have H8 := Lib.hid (And.intro (newer_trans H7.out.1 hb) (And.intro (H7.out.2.1.below hb H7.out.2.1.lt) (And.intro ((H7.out.2.2.below hb).more hb.size) hr8))); clear hb hr8 H7 x0 x1 x2 x3 x4 x5; have x0 := H8.out.2.1.at 0 (v := vi p.years) rfl; have x1 := H8.out.2.1.at 1 (v := vi p.slopes) rfl; have x2 := H8.out.2.1.at 2 (v := .slice p.wa p.ws.length p.wc) rfl; have x3 := H8.out.2.1.at 3 (v := .slice p.na p.ns.length p.nc) rfl; have x4 := H8.out.2.1.at 4 (v := .slice p.va p.vs.length p.vc) rfl; have x5 := H8.out.2.1.at 5 (v := .slice p.pa p.ps.length p.pc) rfl) | (go_at_call 29; refine (HIN.out _ _ _ _ _ H8.out.2.2.1 H8.out.2.2.2).mono ?_; rintro e w9 ⟨rfl, hb⟩; have H9 := Lib.hid (And.intro (newer_trans H8.out.1 hb) (H8.out.2.1.below hb H8.out.2.1.lt)); clear hb H8 x0 x1 x2 x3 x4 x5; have x0 := H9.out.2.at 0 (v := vi p.years) rfl; have x1 := H9.out.2.at 1 (v := vi p.slopes) rfl; have x2 := H9.out.2.at 2 (v := .slice p.wa p.ws.length p.wc) rfl; have x3 := H9.out.2.at 3 (v := .slice p.na p.ns.length p.nc) rfl; have x4 := H9.out.2.at 4 (v := .slice p.va p.vs.length p.vc) rfl; have x5 := H9.out.2.at 5 (v := .slice p.pa p.ps.length p.pc) rfl) | (go_at_call 39; refine (HAL.out _ H9.out.1).mono ?_; rintro e w10 ⟨rfl, hb⟩; have H10 := Lib.hid (newer_trans H9.out.1 hb); clear hb) | (go_at_call 17; refine (wakes_any _).mono ?_; rintro e w' ⟨rfl, hwk⟩; have HWK := Lib.hid (newer_trans H10.out hwk); clear hwk))
        go_ret
        exact ⟨rfl, HWK.out⟩
      · have e2 : sv = false := by rw [HS.out, decide_eq_false hn0]; rfl
        have e1 : ((n : Int) == 0) = false := by rw [beq_eq_false_iff_ne]; omega
        clear hn0
        go_wp2_with (first | (go_at_call 38; refine (HRM.out _ H7.out.1).mono ?_; rintro e w8 ⟨⟨A8, c8, rfl, hr8⟩, hb⟩; have H8 := Lib.hid (And.intro (newer_trans H7.out.1 hb) (And.intro (H7.out.2.1.below hb H7.out.2.1.lt) (And.intro ((H7.out.2.2.below hb).more hb.size) hr8))); clear hb hr8 H7 x0 x1 x2 x3 x4 x5; have x0 := H8.out.2.1.at 0 (v := vi p.years) rfl; have x1 := H8.out.2.1.at 1 (v := vi p.slopes) rfl; have x2 := H8.out.2.1.at 2 (v := .slice p.wa p.ws.length p.wc) rfl; have x3 := H8.out.2.1.at 3 (v := .slice p.na p.ns.length p.nc) rfl; have x4 := H8.out.2.1.at 4 (v := .slice p.va p.vs.length p.vc) rfl; have x5 := H8.out.2.1.at 5 (v := .slice p.pa p.ps.length p.pc) rfl) | (go_at_call 29; refine (HIN.out _ _ _ _ _ H8.out.2.2.1 H8.out.2.2.2).mono ?_; rintro e w9 ⟨rfl, hb⟩; have H9 := Lib.hid (And.intro (newer_trans H8.out.1 hb) (H8.out.2.1.below hb H8.out.2.1.lt)); clear hb H8 x0 x1 x2 x3 x4 x5; have x0 := H9.out.2.at 0 (v := vi p.years) rfl; have x1 := H9.out.2.at 1 (v := vi p.slopes) rfl; have x2 := H9.out.2.at 2 (v := .slice p.wa p.ws.length p.wc) rfl; have x3 := H9.out.2.at 3 (v := .slice p.na p.ns.length p.nc) rfl; have x4 := H9.out.2.at 4 (v := .slice p.va p.vs.length p.vc) rfl; have x5 := H9.out.2.at 5 (v := .slice p.pa p.ps.length p.pc) rfl) | (go_at_call 39; refine (HAL.out _ H9.out.1).mono ?_; rintro e w10 ⟨rfl, hb⟩; have H10 := Lib.hid (newer_trans H9.out.1 hb); clear hb) | (go_at_call 17; refine (wakes_any _).mono ?_; rintro e w' ⟨rfl, hwk⟩; have HWK := Lib.hid (newer_trans H9.out.1 hwk); clear hwk))
        go_ret
        exact ⟨rfl, HWK.out⟩
end Go.Proofs.Ytpnpnfjhjjdmgaa
