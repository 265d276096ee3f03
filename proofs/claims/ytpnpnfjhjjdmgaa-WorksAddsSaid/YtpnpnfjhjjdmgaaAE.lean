/- WorksAdds, walked: it returns true, whatever the project, the plan, the slope and the year. -/
import Derived.Test.YtpnpnfjhjjdmgaaAD
namespace Go.Proofs.Ytpnpnfjhjjdmgaa
open Go.ChangeShapes Go.WideShapes Go.ChangeAt Go.RowKit Go.Deep

theorem checkN_fault {q : Pj} {plan : List Int} (h : faultN q ≠ 0) : checkN q plan = faultN q := by unfold checkN; rw [if_neg h]
theorem addsE_fault {q : Pj} {plan : List Int} {s y : Int} (h : faultN q ≠ 0) : addsE q plan s y = faultN q := by
  unfold addsE
  rw [checkN_fault h, if_neg h]
set_option maxRecDepth 100000 in
set_option maxHeartbeats 8000000 in
theorem worksAdds_walk (p : Pm) (plan : List Int) (L : Option Addr) (lp : Nat) (slope year : Int) (w : World) (hok : PmOk p w) (hr : Row intL 1 w w.heap.size L plan) :
    Calls Try.prog 3 #[pmV p, .slice L plan.length lp, vi slope, vi year] w fun e w' => e = .returned (.bool true) ∧ newer w w' := by
  have hnw := newer_allocH w (.cells (pmC p) 27)
  have hbx := Whole.made w 27 (pmC p)
  have HOK := Lib.hid hok
  have HR := Lib.hid hr
  have H0 := Lib.hid (And.intro hnw hbx)
  have HTH := Lib.hid (lawThin p _ (hok.next hnw))
  have x0 := hbx.at 0 (v := vi p.years) rfl
  have x1 := hbx.at 1 (v := vi p.slopes) rfl
  have x2 := hbx.at 2 (v := .slice p.wa p.ws.length p.wc) rfl
  have x3 := hbx.at 3 (v := .slice p.na p.ns.length p.nc) rfl
  have x4 := hbx.at 4 (v := .slice p.va p.vs.length p.vc) rfl
  have x5 := hbx.at 5 (v := .slice p.pa p.ps.length p.pc) rfl
  clear hnw hbx hok hr
  cases hth : thinP p.pj with
  | false =>
    rw [hth] at HTH
    clear hth
    go_enter Try.func3, Try.ntmps3
    go_wp2_with fail
    refine (HTH.out).mono ?_
    rintro e w1 ⟨rfl, hb⟩
    have HN := Lib.hid (newer_trans H0.out.1 hb)
    clear hb
    go_wp2_with (go_at_call 17; refine (wakes_any _).mono ?_; rintro e w' ⟨rfl, hwk⟩; have HWK := Lib.hid (newer_trans HN.out hwk); clear hwk)
    go_ret
    exact ⟨rfl, HWK.out⟩
  | true =>
    rw [hth] at HTH
    have HF := Lib.hid (thin_few hth)
    have HTP := Lib.hid hth
    clear hth
    by_cases hl : 15 < plan.length
    · have hli : (15 : Int) < plan.length := by omega
      clear hl
      go_enter Try.func3, Try.ntmps3
      go_wp2_with fail
      refine (HTH.out).mono ?_
      rintro e w1 ⟨rfl, hb⟩
      have HN := Lib.hid (newer_trans H0.out.1 hb)
      clear hb
      go_wp2_with (go_at_call 17; refine (wakes_any _).mono ?_; rintro e w' ⟨rfl, hwk⟩; have HWK := Lib.hid (newer_trans HN.out hwk); clear hwk)
      go_ret
      exact ⟨rfl, HWK.out⟩
    have hli : ¬ ((15 : Int) < plan.length) := by omega
    have HL := Lib.hid (show plan.length ≤ 1000 by omega)
    clear hl
    go_enter Try.func3, Try.ntmps3
    go_wp2_with fail
    refine (HTH.out).mono ?_
    rintro e w1 ⟨rfl, hb⟩
    have H1 := Lib.hid (And.intro (newer_trans H0.out.1 hb) (H0.out.2.below hb H0.out.2.lt))
    clear hb H0 HTH x0 x1 x2 x3 x4 x5
    have x0 := H1.out.2.at 0 (v := vi p.years) rfl
    have x1 := H1.out.2.at 1 (v := vi p.slopes) rfl
    have x2 := H1.out.2.at 2 (v := .slice p.wa p.ws.length p.wc) rfl
    have x3 := H1.out.2.at 3 (v := .slice p.na p.ns.length p.nc) rfl
    have x4 := H1.out.2.at 4 (v := .slice p.va p.vs.length p.vc) rfl
    have x5 := H1.out.2.at 5 (v := .slice p.pa p.ps.length p.pc) rfl
    go_wp2_with fail
    refine (lawProject p w1 (HOK.out.next H1.out.1) HF.out).mono ?_
    rintro e w2 ⟨⟨p1, rfl, hj1, ho1, -⟩, hb⟩
    have H2 := Lib.hid (And.intro (newer_trans H1.out.1 hb) (H1.out.2.below hb H1.out.2.lt))
    have HC := Lib.hid (checkProject_any p1 w2 ho1 (thin_few (by rw [hj1]; exact HTP.out)))
    rw [hj1] at HC
    clear hb hj1 ho1 H1 hli x0 x1 x2 x3 x4 x5
    go_wp2_with fail
    refine (HC.out).mono ?_
    rintro e w3 ⟨rfl, hb⟩
    have H3 := Lib.hid (And.intro (newer_trans H2.out.1 hb) (H2.out.2.below hb H2.out.2.lt))
    clear hb H2 HC
    have x0 := H3.out.2.at 0 (v := vi p.years) rfl
    have x1 := H3.out.2.at 1 (v := vi p.slopes) rfl
    have x2 := H3.out.2.at 2 (v := .slice p.wa p.ws.length p.wc) rfl
    have x3 := H3.out.2.at 3 (v := .slice p.na p.ns.length p.nc) rfl
    have x4 := H3.out.2.at 4 (v := .slice p.va p.vs.length p.vc) rfl
    have x5 := H3.out.2.at 5 (v := .slice p.pa p.ps.length p.pc) rfl
    go_wp2_with fail
    refine (lawProject p w3 (HOK.out.next H3.out.1) HF.out).mono ?_
    rintro e w4 ⟨⟨p2, rfl, hj2, ho2, -⟩, hb⟩
    have H4 := Lib.hid (And.intro hj2 (And.intro ho2 (And.intro (newer_trans H3.out.1 hb) (H3.out.2.below hb H3.out.2.lt))))
    clear hb hj2 ho2 H3 x0 x1 x2 x3 x4 x5
    go_wp2_with fail
    refine (lawListO plan L lp w4 HL.out ((HR.out.below H4.out.2.2.1).more H4.out.2.2.1.size)).mono ?_
    rintro e w5 ⟨⟨L2, lp2, rfl, ho5⟩, hb⟩
    have HA := Lib.hid (worksAdds_any p2 plan L2 lp2 slope year w5 (H4.out.2.1.next hb) (thin_few (by rw [H4.out.1]; exact HTP.out)) HL.out (row_of_own (enc := intL) (size := 1) (by omega) (fun _ => rfl) ho5))
    rw [H4.out.1] at HA
    have H5 := Lib.hid (And.intro (newer_trans H4.out.2.2.1 hb) (H4.out.2.2.2.below hb H4.out.2.2.2.lt))
    clear hb ho5 H4
    obtain ⟨f, hf⟩ : ∃ f, f = faultN p.pj := ⟨_, rfl⟩
    have HFE := Lib.hid hf
    rw [← hf]
    have hRF := fun V hV => refFault p V (HOK.out.next hV) HF.out
    rw [← hf] at hRF
    have HRF := Lib.hid hRF
    clear hf hRF
    by_cases hE : addsE p.pj plan slope year = 0
    case neg =>
      have hav : addsV p.pj plan slope year = .tuple #[.agg #[vi 0, vi 0], vi (addsE p.pj plan slope year)] := by
        unfold addsV
        rw [if_neg hE]
      obtain ⟨E, he⟩ : ∃ E, E = addsE p.pj plan slope year := ⟨_, rfl⟩
      rw [hav, ← he] at HA
      rw [← he] at hE
      have HEE := Lib.hid (And.intro he hE)
      clear hav he hE
      go_wp2_with fail
      refine (HA.out).mono ?_
      rintro e w6 ⟨rfl, hb⟩
      have hq := Whole.made w6 38 #[vi 0, vi 0]
      have HQ := Lib.hid (And.intro hq (And.intro (newer_trans (newer_trans H5.out.1 hb) (newer_allocH w6 (.cells #[vi 0, vi 0] 38))) ((H5.out.2.below hb H5.out.2.lt).alloc (.cells #[vi 0, vi 0] 38))))
      clear hb hq HA H5
      have x0 := HQ.out.2.2.at 0 (v := vi p.years) rfl
      have x1 := HQ.out.2.2.at 1 (v := vi p.slopes) rfl
      have x2 := HQ.out.2.2.at 2 (v := .slice p.wa p.ws.length p.wc) rfl
      have x3 := HQ.out.2.2.at 3 (v := .slice p.na p.ns.length p.nc) rfl
      have x4 := HQ.out.2.2.at 4 (v := .slice p.va p.vs.length p.vc) rfl
      have x5 := HQ.out.2.2.at 5 (v := .slice p.pa p.ps.length p.pc) rfl
      go_wp2_with fail
      refine (HRF.out _ HQ.out.2.1).mono ?_
      rintro e w7 ⟨rfl, hb⟩
      have r0 := (HQ.out.1.below hb HQ.out.1.lt).at 0 (v := vi 0) rfl
      have r1 := (HQ.out.1.below hb HQ.out.1.lt).at 1 (v := vi 0) rfl
      have H7 := Lib.hid (And.intro (newer_trans HQ.out.2.1 hb) (HQ.out.2.2.below hb HQ.out.2.2.lt))
      clear hb HQ HRF x0 x1 x2 x3 x4 x5
      have x0 := H7.out.2.at 0 (v := vi p.years) rfl
      have x1 := H7.out.2.at 1 (v := vi p.slopes) rfl
      have x2 := H7.out.2.at 2 (v := .slice p.wa p.ws.length p.wc) rfl
      have x3 := H7.out.2.at 3 (v := .slice p.na p.ns.length p.nc) rfl
      have x4 := H7.out.2.at 4 (v := .slice p.va p.vs.length p.vc) rfl
      have x5 := H7.out.2.at 5 (v := .slice p.pa p.ps.length p.pc) rfl
      by_cases hf0 : f = 0
      case neg =>
        have hEf : E = f := by rw [HEE.out.1, HFE.out]; exact addsE_fault (by rw [← HFE.out]; exact hf0)
        subst hEf
        have b1 : (E == 0) = false := by simpa using hf0
        have b2 : (E != 0) = true := by simpa using hf0
        clear hf0
        go_wp2_with (go_at_call 17; refine (wakes_any _).mono ?_; rintro e w' ⟨rfl, hwk⟩; have HWK := Lib.hid (newer_trans H7.out.1 hwk); clear hwk)
        go_ret
        exact ⟨rfl, HWK.out⟩
      case pos =>
        subst hf0
        have hp := fault_ok HFE.out.symm
        have hsl := hp.slopes
        have hyr := hp.years
        have HP := Lib.hid hp
        have hE2 : E = 2 := by
          have h1 := HEE.out.1
          have h2 := HEE.out.2
          unfold addsE checkN at h1
          rw [if_pos HFE.out.symm] at h1
          rw [h1] at h2 ⊢
          split <;> split <;> simp_all
        subst hE2
        have ws1 : IntKind.i64.wrap (p.slopes - 1) = p.slopes - 1 := IntWalk.i64_in _ (by omega)
        have wy1 : IntKind.i64.wrap (p.years - 1) = p.years - 1 := IntWalk.i64_in _ (by omega)
        have HIP := Lib.hid (fun V hV => refIsPlan p plan L lp V (HOK.out.next hV) HL.out ((HR.out.below hV).more hV.size))
        have hbad : planB p.pj.works plan = false ∨ inB slope 0 (p.slopes - 1) = false ∨ inB year 0 (p.years - 1) = false := by
          have h1 := HEE.out.1
          unfold addsE checkN at h1
          rw [if_pos HFE.out.symm] at h1
          cases hpb : planB p.pj.works plan with
          | false => exact .inl rfl
          | true =>
            rw [hpb] at h1
            simp only [if_true] at h1
            have e1 : p.pj.slopes = p.slopes := rfl
            have e2 : p.pj.years = p.years := rfl
            rw [e1, e2] at h1
            cases hs1 : inB slope 0 (p.slopes - 1) with
            | false => exact .inr (.inl rfl)
            | true =>
              cases hy1 : inB year 0 (p.years - 1) with
              | false => exact .inr (.inr rfl)
              | true => rw [hs1, hy1] at h1; simp at h1
        have HBAD := Lib.hid hbad
        clear hp hbad HEE
        cases hpb : planB p.pj.works plan with
        | false =>
          rw [hpb] at HIP
          clear hpb
          go_wp2_with (go_at_call 23; refine (HIP.out _ H7.out.1).mono ?_; rintro e w8 ⟨rfl, hb⟩; have r0' := keep_cell r0 hb; have r1' := keep_cell r1 hb; have H8 := Lib.hid (newer_trans H7.out.1 hb); clear hb r0 r1)
          go_wp2_with (go_at_call 17; refine (wakes_any _).mono ?_; rintro e w' ⟨rfl, hwk⟩; have HWK := Lib.hid (newer_trans H8.out hwk); clear hwk)
          go_ret
          exact ⟨rfl, HWK.out⟩
        | true =>
          rw [hpb] at HIP HBAD
          clear hpb
          have hbad2 := HBAD.out.resolve_left (by simp)
          cases hs1 : inB slope 0 (p.slopes - 1) with
          | false =>
            go_wp2_with (first | (go_at_call 23; refine (HIP.out _ H7.out.1).mono ?_; rintro e w8 ⟨rfl, hb⟩; have r0' := keep_cell r0 hb; have r1' := keep_cell r1 hb; have x0' := keep_cell x0 hb; have x1' := keep_cell x1 hb; have H8 := Lib.hid (newer_trans H7.out.1 hb); clear hb r0 r1 x0 x1 x2 x3 x4 x5) | (go_at_call 24; refine (in_any _ _ _ _).mono ?_; rintro e w' ⟨rfl, rfl⟩; rw [hs1]))
            go_wp2_with (go_at_call 17; refine (wakes_any _).mono ?_; rintro e w' ⟨rfl, hwk⟩; have HWK := Lib.hid (newer_trans H8.out hwk); clear hwk)
            go_ret
            exact ⟨rfl, HWK.out⟩
          | true =>
            have hy1 : inB year 0 (p.years - 1) = false := by
              rcases hbad2 with h | h
              · rw [hs1] at h; cases h
              · exact h
            go_wp2_with (first | (go_at_call 23; refine (HIP.out _ H7.out.1).mono ?_; rintro e w8 ⟨rfl, hb⟩; have r0' := keep_cell r0 hb; have r1' := keep_cell r1 hb; have x0' := keep_cell x0 hb; have x1' := keep_cell x1 hb; have H8 := Lib.hid (newer_trans H7.out.1 hb); clear hb r0 r1 x0 x1 x2 x3 x4 x5) | (go_at_call 24; refine (in_any _ _ _ _).mono ?_; rintro e w' ⟨rfl, rfl⟩; first | rw [hs1] | rw [hy1]))
            go_wp2_with (go_at_call 17; refine (wakes_any _).mono ?_; rintro e w' ⟨rfl, hwk⟩; have HWK := Lib.hid (newer_trans H8.out hwk); clear hwk)
            go_ret
            exact ⟨rfl, HWK.out⟩
    case pos =>
      have hav : addsV p.pj plan slope year = .tuple #[.agg #[vi (togN false slope.toNat year p.pj.works plan), vi (togN true slope.toNat year p.pj.works plan)], vi 0] := by
        unfold addsV
        rw [if_pos hE]
      have hck : checkN p.pj plan = 0 ∧ inB slope 0 (p.slopes - 1) = true ∧ inB year 0 (p.years - 1) = true := by
        unfold addsE at hE
        by_cases hc : checkN p.pj plan = 0
        · rw [if_pos hc] at hE
          refine ⟨hc, ?_⟩
          have e1 : p.pj.slopes = p.slopes := rfl
          have e2 : p.pj.years = p.years := rfl
          rw [e1, e2] at hE
          cases hs1 : inB slope 0 (p.slopes - 1) <;> cases hy1 : inB year 0 (p.years - 1) <;> rw [hs1, hy1] at hE <;> simp_all
        · rw [if_neg hc] at hE
          exact absurd hE hc
      obtain ⟨hck, hs1, hy1⟩ := hck
      have hfz : faultN p.pj = 0 := by
        unfold checkN at hck
        by_cases hf : faultN p.pj = 0
        · exact hf
        · rw [if_neg hf] at hck; exact absurd hck hf
      have hpb : planB p.pj.works plan = true := by
        unfold checkN at hck
        rw [if_pos hfz] at hck
        cases hq : planB p.pj.works plan with
        | true => rfl
        | false => rw [hq] at hck; simp at hck
      have hp := fault_ok hfz
      have hplo := plan_ok hp hpb
      have hsl := hp.slopes
      have hyr := hp.years
      have hsb := hs1
      have hyb := hy1
      simp only [inB, Bool.and_eq_true, decide_eq_true_eq] at hsb hyb
      have hcast : ((slope.toNat : Nat) : Int) = slope := by omega
      have hT : ∀ (hi : Bool) (V : World), newer w V → Calls Try.prog 25 #[pmV p, .slice L plan.length lp, vi slope, vi year, .bool hi] V fun e w' => e = .returned (vi (togN hi slope.toNat year p.pj.works plan)) ∧ newer V w' := fun hi V hV => by
        have h := refTogether hi p plan L lp slope.toNat year V (HOK.out.next hV) hp hplo.1 ((HR.out.below hV).more hV.size) (by omega) (by omega) (by omega) (fun y hy => by have := hplo.2 y hy; omega)
        rw [hcast] at h
        exact h
      obtain ⟨tl, htl⟩ : ∃ tl, tl = togN false slope.toNat year p.pj.works plan := ⟨_, rfl⟩
      obtain ⟨th, hth⟩ : ∃ th, th = togN true slope.toNat year p.pj.works plan := ⟨_, rfl⟩
      have HTfalse : Hid (∀ V, newer w V → Calls Try.prog 25 #[pmV p, .slice L plan.length lp, vi slope, vi year, .bool false] V fun e w' => e = .returned (vi tl) ∧ newer V w') := Lib.hid (fun V hV => by rw [htl]; exact hT false V hV)
      have HTtrue : Hid (∀ V, newer w V → Calls Try.prog 25 #[pmV p, .slice L plan.length lp, vi slope, vi year, .bool true] V fun e w' => e = .returned (vi th) ∧ newer V w') := Lib.hid (fun V hV => by rw [hth]; exact hT true V hV)
      rw [hav, ← htl, ← hth] at HA
      have hf0 : f = 0 := by rw [HFE.out, hfz]
      subst hf0
      have ws1 : IntKind.i64.wrap (p.slopes - 1) = p.slopes - 1 := IntWalk.i64_in _ (by omega)
      have wy1 : IntKind.i64.wrap (p.years - 1) = p.years - 1 := IntWalk.i64_in _ (by omega)
      have HIP := Lib.hid (fun V hV => refIsPlan p plan L lp V (HOK.out.next hV) HL.out ((HR.out.below hV).more hV.size))
      rw [hpb] at HIP
      clear hav hck hfz hpb hp hplo hsb hyb hcast hT htl hth hE HFE
      go_wp2_with fail
      refine (HA.out).mono ?_
      rintro e w6 ⟨rfl, hb⟩
      have hq := Whole.made w6 38 #[vi tl, vi th]
      have HQ := Lib.hid (And.intro hq (And.intro (newer_trans (newer_trans H5.out.1 hb) (newer_allocH w6 (.cells #[vi tl, vi th] 38))) ((H5.out.2.below hb H5.out.2.lt).alloc (.cells #[vi tl, vi th] 38))))
      clear hb hq HA H5
      have x0 := HQ.out.2.2.at 0 (v := vi p.years) rfl
      have x1 := HQ.out.2.2.at 1 (v := vi p.slopes) rfl
      have x2 := HQ.out.2.2.at 2 (v := .slice p.wa p.ws.length p.wc) rfl
      have x3 := HQ.out.2.2.at 3 (v := .slice p.na p.ns.length p.nc) rfl
      have x4 := HQ.out.2.2.at 4 (v := .slice p.va p.vs.length p.vc) rfl
      have x5 := HQ.out.2.2.at 5 (v := .slice p.pa p.ps.length p.pc) rfl
      go_wp2_with fail
      refine (HRF.out _ HQ.out.2.1).mono ?_
      rintro e w7 ⟨rfl, hb⟩
      have H7 := Lib.hid (And.intro (HQ.out.1.below hb HQ.out.1.lt) (And.intro (newer_trans HQ.out.2.1 hb) (HQ.out.2.2.below hb HQ.out.2.2.lt)))
      clear hb HQ HRF x0 x1 x2 x3 x4 x5
      have x0 := H7.out.2.2.at 0 (v := vi p.years) rfl
      have x1 := H7.out.2.2.at 1 (v := vi p.slopes) rfl
      have x2 := H7.out.2.2.at 2 (v := .slice p.wa p.ws.length p.wc) rfl
      have x3 := H7.out.2.2.at 3 (v := .slice p.na p.ns.length p.nc) rfl
      have x4 := H7.out.2.2.at 4 (v := .slice p.va p.vs.length p.vc) rfl
      have x5 := H7.out.2.2.at 5 (v := .slice p.pa p.ps.length p.pc) rfl
      go_wp2_with (first | (go_at_call 23; refine (HIP.out _ H7.out.2.1).mono ?_; rintro e wz ⟨rfl, hb⟩; have H8 := Lib.hid (And.intro (H7.out.1.below hb H7.out.1.lt) (And.intro (newer_trans H7.out.2.1 hb) (H7.out.2.2.below hb H7.out.2.2.lt))); clear hb H7 x0 x1 x2 x3 x4 x5; have x0 := H8.out.2.2.at 0 (v := vi p.years) rfl; have x1 := H8.out.2.2.at 1 (v := vi p.slopes) rfl) | (go_at_call 24; refine (in_any _ _ _ _).mono ?_; rintro e w' ⟨rfl, rfl⟩; first | rw [hs1] | rw [hy1]))
      clear x0 x1 ws1 wy1
      have HN := Lib.hid H8.out.2.1
      have x0 := H8.out.2.2.at 0 (v := vi p.years) rfl
      have x1 := H8.out.2.2.at 1 (v := vi p.slopes) rfl
      have x2 := H8.out.2.2.at 2 (v := .slice p.wa p.ws.length p.wc) rfl
      have x3 := H8.out.2.2.at 3 (v := .slice p.na p.ns.length p.nc) rfl
      have x4 := H8.out.2.2.at 4 (v := .slice p.va p.vs.length p.vc) rfl
      have x5 := H8.out.2.2.at 5 (v := .slice p.pa p.ps.length p.pc) rfl
      have r0 := H8.out.1.at 0 (v := vi tl) rfl
      have r1 := H8.out.1.at 1 (v := vi th) rfl
      refine wp_words (by kernel_rfl) (region_told_g 20 (by kernel_rfl) (by kernel_rfl) (fun W => Below wz.heap.size wz W) newer (pickD [vIs (vi 0), vIs (.bool true), vIs (.bool true), vIs (.agg #[vi tl, vi th]), vIs (pmV p), vIs (.slice L plan.length lp), vIs (vi slope), vIs (vi year), vIs (vi tl), vIs (pmV p), vIs (.slice L plan.length lp), vIs (vi slope), vIs (vi year), vIs (vi th), vIs (.agg #[vi tl, vi th]), vIs (.bool true), vIs (.bool true), vIs (.bool true), vIs (.bool true), vIs (.bool true)]) ⟨trivial, trivial, trivial, (fun _ _ h => h), (fun _ _ h => h), (fun _ _ h => h), (fun _ _ h => h), (fun _ _ h => h), (fun _ _ h => h), (fun _ _ h => h), (fun _ _ h => h), (fun _ _ h => h), (fun _ _ h => h), (fun _ _ h => h), (fun _ _ h => h), (fun _ _ h => h), trivial, trivial, (fun _ _ h => h), trivial, trivial⟩ (fun h k => newer_trans h k) (pickD_stable _ ⟨vIs_st, vIs_st, vIs_st, vIs_st, vIs_st, vIs_st, vIs_st, vIs_st, vIs_st, vIs_st, vIs_st, vIs_st, vIs_st, vIs_st, vIs_st, vIs_st, vIs_st, vIs_st, vIs_st, vIs_st, trivial⟩) (Below.refl _ wz).drew (Below.refl _ _) ?_ ?_)
      · refine ⟨?_, ?_, ?_, ?_, ?_, ?_, ?_, ?_, ?_, ?_, ?_, ?_, ?_, ?_, ?_, ?_, ?_, ?_, ?_, ?_, trivial⟩
        · intro a W hG hR hO hp
          have h11 := hO.slot 11 (by kernel_rfl)
          refine wp_yields (v := vi 0) ?_ ⟨_, rfl, rfl, Below.refl _ _, hG⟩
          simp [slotOf] at h11
          simp [execOp, go_sem, h11]
        · intro a W hG hR hO hp
          have h77 : slotOf a 77 = vi 0 := hp.1
          refine wp_yields (v := .bool true) ?_ ⟨_, rfl, rfl, Below.refl _ _, hG⟩
          simp [slotOf] at h77
          simp [execOp, go_sem, h77]
        · intro a W hG hR hO hp
          have h78 : slotOf a 78 = .bool true := hp.1
          refine wp_yields (v := .bool true) ?_ ⟨_, rfl, rfl, Below.refl _ _, hG⟩
          simp [slotOf] at h78
          simp [execOp, go_sem, h78]
        · intro a W hG hR hO hp
          have h10 := hO.slot 10 (by kernel_rfl)
          have c0 := keep_cell r0 hG
          have c1 := keep_cell r1 hG
          refine wp_yields (v := .agg #[vi tl, vi th]) ?_ ⟨_, rfl, rfl, Below.refl _ _, hG⟩
          simp [slotOf] at h10
          simp [execOp, go_sem, h10, c0, c1]
        · intro a W hG hR hO hp
          have h4 := hO.slot 4 (by kernel_rfl)
          have c0 := keep_cell x0 hG
          have c1 := keep_cell x1 hG
          have c2 := keep_cell x2 hG
          have c3 := keep_cell x3 hG
          have c4 := keep_cell x4 hG
          have c5 := keep_cell x5 hG
          refine wp_yields (v := pmV p) ?_ ⟨_, rfl, rfl, Below.refl _ _, hG⟩
          simp [slotOf] at h4
          simp [execOp, go_sem, h4, c0, c1, c2, c3, c4, c5]
        · intro a W hG hR hO hp
          have h1 := hO.slot 1 (by kernel_rfl)
          refine wp_yields (v := .slice L plan.length lp) ?_ ⟨_, rfl, rfl, Below.refl _ _, hG⟩
          simp [slotOf] at h1
          simp [execOp, go_sem, h1]
        · intro a W hG hR hO hp
          have h2 := hO.slot 2 (by kernel_rfl)
          refine wp_yields (v := vi slope) ?_ ⟨_, rfl, rfl, Below.refl _ _, hG⟩
          simp [slotOf] at h2
          simp [execOp, go_sem, h2]
        · intro a W hG hR hO hp
          have h3 := hO.slot 3 (by kernel_rfl)
          refine wp_yields (v := vi year) ?_ ⟨_, rfl, rfl, Below.refl _ _, hG⟩
          simp [slotOf] at h3
          simp [execOp, go_sem, h3]
        · intro a W hG hR hO hp
          have h81 : slotOf a 81 = pmV p := hp.1
          have h82 : slotOf a 82 = .slice L plan.length lp := hp.2.1
          have h83 : slotOf a 83 = vi slope := hp.2.2.1
          have h84 : slotOf a 84 = vi year := hp.2.2.2.1
          refine wp_enters (f := 25) (args := #[pmV p, .slice L plan.length lp, vi slope, vi year, .bool false]) ?_ ((HTfalse.out W (newer_trans HN.out hG)).mono ?_)
          · simp [slotOf] at h81 h82 h83 h84
            simp [go_sem, h81, h82, h83, h84]
          · rintro e w' ⟨rfl, hb⟩
            exact ⟨_, rfl, _, rfl, rfl, hb, below_next hG hb⟩
        · intro a W hG hR hO hp
          have h4 := hO.slot 4 (by kernel_rfl)
          have c0 := keep_cell x0 hG
          have c1 := keep_cell x1 hG
          have c2 := keep_cell x2 hG
          have c3 := keep_cell x3 hG
          have c4 := keep_cell x4 hG
          have c5 := keep_cell x5 hG
          refine wp_yields (v := pmV p) ?_ ⟨_, rfl, rfl, Below.refl _ _, hG⟩
          simp [slotOf] at h4
          simp [execOp, go_sem, h4, c0, c1, c2, c3, c4, c5]
        · intro a W hG hR hO hp
          have h1 := hO.slot 1 (by kernel_rfl)
          refine wp_yields (v := .slice L plan.length lp) ?_ ⟨_, rfl, rfl, Below.refl _ _, hG⟩
          simp [slotOf] at h1
          simp [execOp, go_sem, h1]
        · intro a W hG hR hO hp
          have h2 := hO.slot 2 (by kernel_rfl)
          refine wp_yields (v := vi slope) ?_ ⟨_, rfl, rfl, Below.refl _ _, hG⟩
          simp [slotOf] at h2
          simp [execOp, go_sem, h2]
        · intro a W hG hR hO hp
          have h3 := hO.slot 3 (by kernel_rfl)
          refine wp_yields (v := vi year) ?_ ⟨_, rfl, rfl, Below.refl _ _, hG⟩
          simp [slotOf] at h3
          simp [execOp, go_sem, h3]
        · intro a W hG hR hO hp
          have h86 : slotOf a 86 = pmV p := hp.1
          have h87 : slotOf a 87 = .slice L plan.length lp := hp.2.1
          have h88 : slotOf a 88 = vi slope := hp.2.2.1
          have h89 : slotOf a 89 = vi year := hp.2.2.2.1
          refine wp_enters (f := 25) (args := #[pmV p, .slice L plan.length lp, vi slope, vi year, .bool true]) ?_ ((HTtrue.out W (newer_trans HN.out hG)).mono ?_)
          · simp [slotOf] at h86 h87 h88 h89
            simp [go_sem, h86, h87, h88, h89]
          · rintro e w' ⟨rfl, hb⟩
            exact ⟨_, rfl, _, rfl, rfl, hb, below_next hG hb⟩
        · intro a W hG hR hO hp
          have h85 : slotOf a 85 = vi tl := hp.1
          have h90 : slotOf a 90 = vi th := hp.2.1
          refine wp_yields (v := .agg #[vi tl, vi th]) ?_ ⟨_, rfl, rfl, Below.refl _ _, hG⟩
          simp [slotOf] at h85 h90
          simp [execOp, go_sem, h85, h90]
        · intro a W hG hR hO hp
          have h80 : slotOf a 80 = .agg #[vi tl, vi th] := hp.1
          have h91 : slotOf a 91 = .agg #[vi tl, vi th] := hp.2.1
          refine wp_yields (v := .bool true) ?_ ⟨_, rfl, rfl, Below.refl _ _, hG⟩
          exact exec_eq38 rfl ((eval_slot a 80).trans h80) ((eval_slot a 91).trans h91)
        · intro a W hG hR hO hp
          have h79 : slotOf a 79 = .bool true := hp.1
          have h92 : slotOf a 92 = .bool true := hp.2.1
          refine wp_yields (v := .bool true) ?_ ⟨_, rfl, rfl, Below.refl _ _, hG⟩
          simp [slotOf] at h79 h92
          simp [execOp, go_sem, h79, h92]
        · intro a W hG hR hO hp
          have h93 : slotOf a 93 = .bool true := hp.1
          refine wp_yields (v := .bool true) ?_ ⟨_, rfl, rfl, Below.refl _ _, hG⟩
          simp [slotOf] at h93
          simp [execOp, go_sem, h93]
        · intro a W hG hR hO hp
          refine wp_enters (f := 17) (args := #[]) ?_ ((wakes_any W).mono ?_)
          · skip
            simp [go_sem]
          · rintro e w' ⟨rfl, hb⟩
            exact ⟨_, rfl, _, rfl, rfl, hb, below_next hG hb⟩
        · intro a W hG hR hO hp
          have h94 : slotOf a 94 = .bool true := hp.1
          have h95 : slotOf a 95 = .bool true := hp.2.1
          refine wp_yields (v := .bool true) ?_ ⟨_, rfl, rfl, Below.refl _ _, hG⟩
          simp [slotOf] at h94 h95
          simp [execOp, go_sem, h94, h95]
      · intro W hG hR
        rintro _ rfl _ rfl _ rfl _ rfl _ rfl _ rfl _ rfl _ rfl _ rfl _ rfl _ rfl _ rfl _ rfl _ rfl _ rfl _ rfl _ rfl _ rfl _ rfl _ rfl
        change wpList _ _ _ _ _ _
        simp only [Act.put, List.setIfInBounds_toArray, List.set_cons_zero, List.set_cons_succ, List.drop_succ_cons, List.drop_zero]
        have HZ := Lib.hid (newer_trans HN.out hG)
        clear hG hR r0 r1 x0 x1 x2 x3 x4 x5
        go_wp2_with fail
        go_ret
        exact ⟨rfl, HZ.out⟩
end Go.Proofs.Ytpnpnfjhjjdmgaa
