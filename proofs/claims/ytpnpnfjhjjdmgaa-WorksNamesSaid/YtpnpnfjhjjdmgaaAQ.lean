/- WorksBests, walked: it returns true, whatever the project. -/
import Derived.Test.YtpnpnfjhjjdmgaaAP
namespace Go.Proofs.Ytpnpnfjhjjdmgaa
open Go.ChangeShapes Go.WideShapes Go.ChangeAt Go.RowKit Go.Deep

theorem map_intL : ∀ l : List Int, l.map vi = l.flatMap intL
  | [] => rfl
  | x :: l => by
    rw [List.map_cons, List.flatMap_cons, ← map_intL l]
    rfl
theorem pl_ok {p : Pm} (h : PjOk p) : PlOk p.pj where
  ws x hx := by
    obtain ⟨z, hz, rfl⟩ := List.mem_map.1 hx
    have hw := wdB_parts (h.ws z hz)
    have hy := h.years
    exact ⟨by omega, hw.2.1.1, hw.2.1.2.1, by omega, hw.2.2.1.1, hw.2.2.2.1.1, hw.2.2.2.2.2⟩
  ns n hn := by
    have hnd := h.ns n hn
    simp only [ndB, inB, Bool.and_eq_true, decide_eq_true_eq] at hnd
    omega
  nn := h.nn
theorem few_thin {q : Pj} (h : fewP q = true) : thinP q = true := by
  unfold fewP at h
  rw [Bool.and_eq_true] at h
  exact h.1
set_option maxRecDepth 100000 in
set_option maxHeartbeats 8000000 in
theorem worksBests_walk (p : Pm) (w : World) (hok : PmOk p w) :
    Calls Try.prog 4 #[pmV p] w fun e w' => e = .returned (.bool true) ∧ newer w w' := by
  have hnw := newer_allocH w (.cells (pmC p) 27)
  have hbx := Whole.made w 27 (pmC p)
  have HOK := Lib.hid hok
  have H0 := Lib.hid (And.intro hnw hbx)
  have HFW := Lib.hid (lawFew p _ (hok.next hnw))
  have x0 := hbx.at 0 (v := vi p.years) rfl
  have x1 := hbx.at 1 (v := vi p.slopes) rfl
  have x2 := hbx.at 2 (v := .slice p.wa p.ws.length p.wc) rfl
  have x3 := hbx.at 3 (v := .slice p.na p.ns.length p.nc) rfl
  have x4 := hbx.at 4 (v := .slice p.va p.vs.length p.vc) rfl
  have x5 := hbx.at 5 (v := .slice p.pa p.ps.length p.pc) rfl
  clear hnw hbx hok
  cases hth : fewP p.pj with
  | false =>
    rw [hth] at HFW
    clear hth
    go_enter Try.func4, Try.ntmps4
    go_wp2_with fail
    refine (HFW.out).mono ?_
    rintro e w1 ⟨rfl, hb⟩
    have HN := Lib.hid (newer_trans H0.out.1 hb)
    clear hb
    go_wp2_with (go_at_call 17; refine (wakes_any _).mono ?_; rintro e w' ⟨rfl, hwk⟩; have HWK := Lib.hid (newer_trans HN.out hwk); clear hwk)
    go_ret
    exact ⟨rfl, HWK.out⟩
  | true =>
    rw [hth] at HFW
    have HTP := Lib.hid (few_thin hth)
    have HF := Lib.hid (thin_few HTP.out)
    clear hth
    obtain ⟨bo, hbo⟩ : ∃ bo, bo = bestR p.pj := ⟨_, rfl⟩
    obtain ⟨E, hE⟩ : ∃ E, E = bestE p.pj := ⟨_, rfl⟩
    have HBO := Lib.hid hbo
    have HEE := Lib.hid hE
    clear hbo hE
    go_enter Try.func4, Try.ntmps4
    go_wp2_with fail
    refine (HFW.out).mono ?_
    rintro e w1 ⟨rfl, hb⟩
    have H1 := Lib.hid (And.intro (newer_trans H0.out.1 hb) (H0.out.2.below hb H0.out.2.lt))
    clear hb H0 HFW x0 x1 x2 x3 x4 x5
    have x0 := H1.out.2.at 0 (v := vi p.years) rfl
    have x1 := H1.out.2.at 1 (v := vi p.slopes) rfl
    have x2 := H1.out.2.at 2 (v := .slice p.wa p.ws.length p.wc) rfl
    have x3 := H1.out.2.at 3 (v := .slice p.na p.ns.length p.nc) rfl
    have x4 := H1.out.2.at 4 (v := .slice p.va p.vs.length p.vc) rfl
    have x5 := H1.out.2.at 5 (v := .slice p.pa p.ps.length p.pc) rfl
    go_wp2_with fail
    refine (lawProject p w1 (HOK.out.next H1.out.1) HF.out).mono ?_
    rintro e w2 ⟨⟨p1, rfl, hj1, ho1, hpc⟩, hb⟩
    have HA := Lib.hid (worksBest_any p1 w2 ho1 (thin_few (by rw [hj1]; exact HTP.out)) hpc)
    rw [hj1, ← HBO.out, ← HEE.out] at HA
    have H2 := Lib.hid (And.intro (newer_trans H1.out.1 hb) (H1.out.2.below hb H1.out.2.lt))
    clear hb hj1 ho1 hpc H1 x0 x1 x2 x3 x4 x5
    go_wp2_with fail
    refine (HA.out).mono ?_
    rintro e w3 ⟨⟨pv, rfl, hpv⟩, hb⟩
    have H3 := Lib.hid (And.intro (newer_trans H2.out.1 hb) (H2.out.2.below hb H2.out.2.lt))
    have HPV := Lib.hid hpv
    clear hb hpv H2 HA
    have x0 := H3.out.2.at 0 (v := vi p.years) rfl
    have x1 := H3.out.2.at 1 (v := vi p.slopes) rfl
    have x2 := H3.out.2.at 2 (v := .slice p.wa p.ws.length p.wc) rfl
    have x3 := H3.out.2.at 3 (v := .slice p.na p.ns.length p.nc) rfl
    have x4 := H3.out.2.at 4 (v := .slice p.va p.vs.length p.vc) rfl
    have x5 := H3.out.2.at 5 (v := .slice p.pa p.ps.length p.pc) rfl
    obtain ⟨f, hf⟩ : ∃ f, f = faultN p.pj := ⟨_, rfl⟩
    have HFE := Lib.hid hf
    have hRF := fun V hV => refFault p V (HOK.out.next hV) HF.out
    rw [← hf] at hRF
    have HRF := Lib.hid hRF
    clear hf hRF
    by_cases hf0 : f = 0
    case neg =>
      have hbn : bo = none := by rw [HBO.out]; unfold bestR; rw [if_neg (by rw [← HFE.out]; exact hf0)]
      have hEf : E = f := by rw [HEE.out, HFE.out]; unfold bestE; rw [if_neg (by rw [← HFE.out]; exact hf0)]
      subst hbn
      subst hEf
      obtain rfl : pv = .slice none 0 0 := HPV.out
      have hc0 : costOf none = 0 := rfl
      rw [hc0]
      have b1 : (E == 0) = false := by simpa using hf0
      have b2 : (E != 0) = true := by simpa using hf0
      clear hf0 hc0
      go_wp2_with fail
      refine (HRF.out _ H3.out.1).mono ?_
      rintro e w4 ⟨rfl, hb⟩
      have H4 := Lib.hid (newer_trans H3.out.1 hb)
      clear hb H3 x0 x1 x2 x3 x4 x5
      go_wp2_with (go_at_call 17; refine (wakes_any _).mono ?_; rintro e w' ⟨rfl, hwk⟩; have HWK := Lib.hid (newer_trans H4.out hwk); clear hwk)
      go_ret
      exact ⟨rfl, HWK.out⟩
    subst hf0
    have hpo := fault_ok HFE.out.symm
    have HP := Lib.hid hpo
    have hbr := best_ref (pl_ok hpo)
    have hbo2 : bo = asO p.pj.works (refB p.pj p.pj.works.length []) := by rw [HBO.out, hbr]; unfold bestR; rw [if_pos HFE.out.symm]
    have hE2 : E = if bo.isSome = true then 0 else 9 := by rw [HEE.out, hbo2, hbr]; unfold bestE; rw [if_pos HFE.out.symm]
    have HRB := Lib.hid (fun V (hV : newer w V) => refBest p hpo p.ws.length [] none 0 V (HOK.out.next hV) (Row.nil _) (by simp) rfl)
    rw [show p.ws.length = p.pj.works.length by simp [Pm.pj]] at HRB
    have hlen := refB_len (q := p.pj) p.pj.works.length [] (by simp)
    obtain ⟨rb, hrb⟩ : ∃ rb, rb = refB p.pj p.pj.works.length [] := ⟨_, rfl⟩
    rw [← hrb] at hbo2 HRB hlen
    obtain ⟨xl, is⟩ := rb
    have HLEN := Lib.hid hlen
    clear hpo hbr hrb hlen
    cases is with
    | false =>
      have hbn : bo = none := by rw [hbo2]; rfl
      subst hbn
      obtain rfl : E = 9 := by rw [hE2]; rfl
      obtain rfl : pv = .slice none 0 0 := HPV.out
      have hc0 : costOf none = 0 := rfl
      rw [hc0]
      clear hc0 hbo2 hE2
      go_wp2_with fail
      refine (HRF.out _ H3.out.1).mono ?_
      rintro e w4 ⟨rfl, hb⟩
      have H4 := Lib.hid (And.intro (newer_trans H3.out.1 hb) (H3.out.2.below hb H3.out.2.lt))
      clear hb H3 x0 x1 x2 x3 x4 x5
      have x0 := H4.out.2.at 0 (v := vi p.years) rfl
      have x1 := H4.out.2.at 1 (v := vi p.slopes) rfl
      have x2 := H4.out.2.at 2 (v := .slice p.wa p.ws.length p.wc) rfl
      have x3 := H4.out.2.at 3 (v := .slice p.na p.ns.length p.nc) rfl
      have x4 := H4.out.2.at 4 (v := .slice p.va p.vs.length p.vc) rfl
      have x5 := H4.out.2.at 5 (v := .slice p.pa p.ps.length p.pc) rfl
      go_wp2_with fail
      refine (HRB.out _ H4.out.1).mono ?_
      rintro e w5 ⟨⟨A5, c5, rfl, -⟩, hb⟩
      have H5 := Lib.hid (newer_trans H4.out.1 hb)
      clear hb H4 x0 x1 x2 x3 x4 x5
      go_wp2_with (go_at_call 17; refine (wakes_any _).mono ?_; rintro e w' ⟨rfl, hwk⟩; have HWK := Lib.hid (newer_trans H5.out hwk); clear hwk)
      go_ret
      exact ⟨rfl, HWK.out⟩
    | true =>
      obtain ⟨cn, hcn⟩ : ∃ cn, cn = costN p.pj.works xl := ⟨_, rfl⟩
      have hbn : bo = some (xl, cn) := by rw [hbo2, hcn]; rfl
      subst hbn
      obtain rfl : E = 0 := by rw [hE2]; rfl
      have hpv2 := HPV.out
      obtain ⟨⟨A3, c3, rfl, -⟩, hown⟩ := hpv2
      have hrow := row_of_own (enc := intL) (size := 1) (by omega) (fun _ => rfl) (by rw [← map_intL]; exact hown)
      have hc0 : costOf (some (xl, cn)) = cn := rfl
      have hxl : xl.length = p.ws.length := by
        have h := HLEN.out rfl
        rw [show p.pj.works.length = p.ws.length by simp [Pm.pj]] at h
        exact h
      have hx1 : xl.length ≤ 1000 := by have := HP.out.wn; omega
      have HRC := Lib.hid (fun V (hV : newer w V) A c (hr : Row intL 1 V V.heap.size A xl) => refCost p xl A c V (HOK.out.next hV) HP.out hxl hr)
      rw [← hcn] at HRC
      have HIN : Hid (∀ V A B c d, Row intL 1 V V.heap.size A xl → Row intL 1 V V.heap.size B xl → Calls Try.prog 29 #[.slice A xl.length c, .slice B xl.length d] V fun e w' => e = .returned (.bool true) ∧ newer V w') := Lib.hid (fun V A B c d h1 h2 => by
        have h := lawInts xl xl A B c d V hx1 hx1 h1 h2
        rw [decide_eq_true (rfl : xl = xl)] at h
        exact h)
      have H3b := Lib.hid (And.intro H3.out.1 (And.intro H3.out.2 hrow))
      rw [hc0]
      clear hc0 hbo2 hE2 hrow hown hxl hx1 hcn H3 HPV
      go_wp2_with fail
      refine (HRF.out _ H3b.out.1).mono ?_
      rintro e w4 ⟨rfl, hb⟩
      have H4 := Lib.hid (And.intro (newer_trans H3b.out.1 hb) (And.intro (H3b.out.2.1.below hb H3b.out.2.1.lt) ((H3b.out.2.2.below hb).more hb.size)))
      clear hb H3b x0 x1 x2 x3 x4 x5
      have x0 := H4.out.2.1.at 0 (v := vi p.years) rfl
      have x1 := H4.out.2.1.at 1 (v := vi p.slopes) rfl
      have x2 := H4.out.2.1.at 2 (v := .slice p.wa p.ws.length p.wc) rfl
      have x3 := H4.out.2.1.at 3 (v := .slice p.na p.ns.length p.nc) rfl
      have x4 := H4.out.2.1.at 4 (v := .slice p.va p.vs.length p.vc) rfl
      have x5 := H4.out.2.1.at 5 (v := .slice p.pa p.ps.length p.pc) rfl
      go_wp2_with fail
      refine (HRB.out _ H4.out.1).mono ?_
      rintro e w5 ⟨⟨A5, c5, rfl, hr5⟩, hb⟩
      have H5 := Lib.hid (And.intro (newer_trans H4.out.1 hb) (And.intro (H4.out.2.1.below hb H4.out.2.1.lt) (And.intro ((H4.out.2.2.below hb).more hb.size) hr5)))
      clear hb hr5 H4 x0 x1 x2 x3 x4 x5
      have x0 := H5.out.2.1.at 0 (v := vi p.years) rfl
      have x1 := H5.out.2.1.at 1 (v := vi p.slopes) rfl
      have x2 := H5.out.2.1.at 2 (v := .slice p.wa p.ws.length p.wc) rfl
      have x3 := H5.out.2.1.at 3 (v := .slice p.na p.ns.length p.nc) rfl
      have x4 := H5.out.2.1.at 4 (v := .slice p.va p.vs.length p.vc) rfl
      have x5 := H5.out.2.1.at 5 (v := .slice p.pa p.ps.length p.pc) rfl
      go_wp2_with (first | (go_at_call 29; refine (HIN.out _ _ _ _ _ H5.out.2.2.1 H5.out.2.2.2).mono ?_; rintro e w6 ⟨rfl, hb⟩; have H6 := Lib.hid (And.intro (newer_trans H5.out.1 hb) (And.intro (H5.out.2.1.below hb H5.out.2.1.lt) ((H5.out.2.2.2.below hb).more hb.size))); clear hb H5 x0 x1 x2 x3 x4 x5; have x0 := H6.out.2.1.at 0 (v := vi p.years) rfl; have x1 := H6.out.2.1.at 1 (v := vi p.slopes) rfl; have x2 := H6.out.2.1.at 2 (v := .slice p.wa p.ws.length p.wc) rfl; have x3 := H6.out.2.1.at 3 (v := .slice p.na p.ns.length p.nc) rfl; have x4 := H6.out.2.1.at 4 (v := .slice p.va p.vs.length p.vc) rfl; have x5 := H6.out.2.1.at 5 (v := .slice p.pa p.ps.length p.pc) rfl) | (go_at_call 30; refine (HRC.out _ H6.out.1 _ _ H6.out.2.2).mono ?_; rintro e w7 ⟨rfl, hb⟩; have H7 := Lib.hid (newer_trans H6.out.1 hb); clear hb) | (go_at_call 17; refine (wakes_any _).mono ?_; rintro e w' ⟨rfl, hwk⟩; have HWK := Lib.hid (newer_trans H7.out hwk); clear hwk))
      go_ret
      exact ⟨rfl, HWK.out⟩
end Go.Proofs.Ytpnpnfjhjjdmgaa
