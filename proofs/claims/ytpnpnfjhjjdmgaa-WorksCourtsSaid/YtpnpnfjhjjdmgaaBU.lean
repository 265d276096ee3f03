/- WorksCourts returns true, whatever the project; what comes in stays as it was. -/
import Derived.Test.YtpnpnfjhjjdmgaaBT
namespace Go.Proofs.Ytpnpnfjhjjdmgaa
open Go.ChangeShapes Go.WideShapes Go.ChangeAt Go.RowKit Go.Deep

theorem courtL_none {q : Pj} (hf : faultN q = 0) (h : courtE q = 7) : courtL q = [] := by
  unfold courtE at h
  unfold courtL
  rw [if_pos hf] at h ⊢
  cases hr : courtR q with
  | none => rfl
  | some x =>
    rw [hr] at h
    simp at h
set_option maxRecDepth 100000 in
set_option maxHeartbeats 8000000 in
theorem worksCourts_walk (p : Pm) (w : World) (hok : PmOk p w) :
    Calls Try.prog 13 #[pmV p] w fun e w' => e = .returned (.bool true) ∧ newer w w' := by
  have hnw := newer_allocH w (.cells (pmC p) 27)
  have hbx := Whole.made w 27 (pmC p)
  have HOK := Lib.hid hok
  have HFW := Lib.hid (lawFew p _ (hok.next hnw))
  have H1 := Lib.hid (And.intro (hnw) (hbx))
  clear hnw hbx hok
  have x0 := H1.out.2.at 0 (v := vi p.years) rfl
  have x1 := H1.out.2.at 1 (v := vi p.slopes) rfl
  have x2 := H1.out.2.at 2 (v := .slice p.wa p.ws.length p.wc) rfl
  have x3 := H1.out.2.at 3 (v := .slice p.na p.ns.length p.nc) rfl
  have x4 := H1.out.2.at 4 (v := .slice p.va p.vs.length p.vc) rfl
  have x5 := H1.out.2.at 5 (v := .slice p.pa p.ps.length p.pc) rfl
  cases hrd : fewP p.pj with
  | false =>
    rw [hrd] at HFW
    clear hrd
    go_enter Try.func13, Try.ntmps13
    go_wp2_with fail
    refine (HFW.out).mono ?_
    rintro e w2 ⟨rfl, hb⟩
    have H3 := Lib.hid (And.intro ((newer_trans H1.out.1 hb)) ((H1.out.2.below hb H1.out.2.lt)))
    clear hb H1 x0 x1 x2 x3 x4 x5
    go_wp2_with (go_at_call 17; refine (wakes_any _).mono ?_; rintro e w' ⟨rfl, hwk⟩; have HWK := Lib.hid (newer_trans H3.out.1 hwk); clear hwk)
    go_ret
    exact ⟨rfl, HWK.out⟩
  | true =>
    rw [hrd] at HFW
    have HTP := Lib.hid (few_thin hrd)
    have HF := Lib.hid (thin_few HTP.out)
    clear hrd
    obtain ⟨f, hf⟩ : ∃ f, f = faultN p.pj := ⟨_, rfl⟩
    have HFE := Lib.hid hf
    obtain ⟨E, hE⟩ : ∃ E, E = courtE p.pj := ⟨_, rfl⟩
    have HEE := Lib.hid hE
    obtain ⟨L, hL⟩ : ∃ L, L = courtL p.pj := ⟨_, rfl⟩
    have HLL := Lib.hid hL
    have hRF := fun V hV => refFault p V (HOK.out.next hV) HF.out
    rw [← hf] at hRF
    have HRF := Lib.hid hRF
    clear hf hRF hE hL
    have HCO := Lib.hid (fun (p1 : Pm) (V : World) (hj : p1.pj = p.pj) (hok : PmOk p1 V) (hpc : p1.ps.length ≤ p1.pc) => by
      have h := court_any p1 V hok (thin_few (by rw [hj]; exact HTP.out)) hpc
      rw [hj, ← HLL.out, ← HEE.out] at h
      exact h)
    by_cases hf0 : f = 0
    · subst hf0
      have HFO := Lib.hid (faultOk_iff.1 HFE.out.symm)
      have HV6 : Hid (p.vs.length ≤ 6) := Lib.hid HFO.out.vn
      have hv6 := HV6.out
      by_cases hv3 : 3 < p.vs.length
      · have hvi : (3 : Int) < p.vs.length := by omega
        have hg3 : p.vs.length > 3 := hv3
        clear hv3
        go_enter Try.func13, Try.ntmps13
        go_wp2_with fail
        refine (HFW.out).mono ?_
        rintro e w4 ⟨rfl, hb⟩
        have H5 := Lib.hid (And.intro ((newer_trans H1.out.1 hb)) ((H1.out.2.below hb H1.out.2.lt)))
        clear hb HFW H1 x0 x1 x2 x3 x4 x5
        have x0 := H5.out.2.at 0 (v := vi p.years) rfl
        have x1 := H5.out.2.at 1 (v := vi p.slopes) rfl
        have x2 := H5.out.2.at 2 (v := .slice p.wa p.ws.length p.wc) rfl
        have x3 := H5.out.2.at 3 (v := .slice p.na p.ns.length p.nc) rfl
        have x4 := H5.out.2.at 4 (v := .slice p.va p.vs.length p.vc) rfl
        have x5 := H5.out.2.at 5 (v := .slice p.pa p.ps.length p.pc) rfl
        go_wp2_with fail
        refine (HRF.out _ H5.out.1).mono ?_
        rintro e w6 ⟨rfl, hb⟩
        have H7 := Lib.hid (And.intro ((newer_trans H5.out.1 hb)) ((H5.out.2.below hb H5.out.2.lt)))
        clear hb H5 x0 x1 x2 x3 x4 x5
        have x0 := H7.out.2.at 0 (v := vi p.years) rfl
        have x1 := H7.out.2.at 1 (v := vi p.slopes) rfl
        have x2 := H7.out.2.at 2 (v := .slice p.wa p.ws.length p.wc) rfl
        have x3 := H7.out.2.at 3 (v := .slice p.na p.ns.length p.nc) rfl
        have x4 := H7.out.2.at 4 (v := .slice p.va p.vs.length p.vc) rfl
        have x5 := H7.out.2.at 5 (v := .slice p.pa p.ps.length p.pc) rfl
        go_wp2_with (go_at_call 17; refine (wakes_any _).mono ?_; rintro e w' ⟨rfl, hwk⟩; have HWK := Lib.hid (newer_trans H7.out.1 hwk); clear hwk)
        go_ret
        exact ⟨rfl, HWK.out⟩
      · have hvi : ¬ ((3 : Int) < p.vs.length) := by omega
        clear hv3
        obtain ⟨R, hR⟩ : ∃ R, R = refC (notB p.vs) (chF p.pj) p.vs.length (2 ^ p.vs.length) := ⟨_, rfl⟩
        have HRC := Lib.hid (fun V (hV : newer w V) => refCourt p V (HOK.out.next hV) HFO.out)
        rw [← hR] at HRC
        have HCT := Lib.hid (refC_court HFO.out (f := chF p.pj) rfl)
        rw [show p.pj.villages = p.vs from rfl, ← hR, ← HEE.out, ← HLL.out] at HCT
        have HCE : Hid (E = 0 ∨ E = 7) := Lib.hid (by rw [HEE.out]; exact courtE_of HFE.out.symm)
        clear hR
        obtain ⟨rl, ri⟩ := R
        cases ri with
        | false =>
          obtain rfl : E = 7 := by
            rcases HCE.out with h | h
            · have := (HCT.out.1 h).1
              cases this
            · exact h
          obtain rfl : L = [] := by rw [HLL.out]; exact courtL_none HFE.out.symm HEE.out.symm
          clear HCT HCE
          go_enter Try.func13, Try.ntmps13
          go_wp2_with fail
          refine (HFW.out).mono ?_
          rintro e w8 ⟨rfl, hb⟩
          have H9 := Lib.hid (And.intro ((newer_trans H1.out.1 hb)) ((H1.out.2.below hb H1.out.2.lt)))
          clear hb HFW H1 x0 x1 x2 x3 x4 x5
          have x0 := H9.out.2.at 0 (v := vi p.years) rfl
          have x1 := H9.out.2.at 1 (v := vi p.slopes) rfl
          have x2 := H9.out.2.at 2 (v := .slice p.wa p.ws.length p.wc) rfl
          have x3 := H9.out.2.at 3 (v := .slice p.na p.ns.length p.nc) rfl
          have x4 := H9.out.2.at 4 (v := .slice p.va p.vs.length p.vc) rfl
          have x5 := H9.out.2.at 5 (v := .slice p.pa p.ps.length p.pc) rfl
          go_wp2_with fail
          refine (HRF.out _ H9.out.1).mono ?_
          rintro e w10 ⟨rfl, hb⟩
          have H11 := Lib.hid (And.intro ((newer_trans H9.out.1 hb)) ((H9.out.2.below hb H9.out.2.lt)))
          clear hb H9 x0 x1 x2 x3 x4 x5
          have x0 := H11.out.2.at 0 (v := vi p.years) rfl
          have x1 := H11.out.2.at 1 (v := vi p.slopes) rfl
          have x2 := H11.out.2.at 2 (v := .slice p.wa p.ws.length p.wc) rfl
          have x3 := H11.out.2.at 3 (v := .slice p.na p.ns.length p.nc) rfl
          have x4 := H11.out.2.at 4 (v := .slice p.va p.vs.length p.vc) rfl
          have x5 := H11.out.2.at 5 (v := .slice p.pa p.ps.length p.pc) rfl
          go_wp2_with fail
          refine (lawProject p w10 (HOK.out.next H11.out.1) HF.out).mono ?_
          rintro e w12 ⟨⟨p1, rfl, hj1, ho1, hpc1⟩, hb⟩
          have HJ1 := Lib.hid (And.intro hj1 hpc1)
          clear hj1 hpc1
          have H13 := Lib.hid (And.intro ((newer_trans H11.out.1 hb)) (And.intro ((H11.out.2.below hb H11.out.2.lt)) (ho1)))
          clear hb ho1 H11 x0 x1 x2 x3 x4 x5
          go_wp2_with fail
          refine (HCO.out p1 _ HJ1.out.1 H13.out.2.2 HJ1.out.2).mono ?_
          rintro e w14 ⟨⟨AL, cL, rfl, ho1⟩, hb⟩
          have H15 := Lib.hid (And.intro ((newer_trans H13.out.1 hb)) (And.intro ((H13.out.2.1.below hb H13.out.2.1.lt)) (ho1)))
          clear hb HJ1 HCO ho1 H13
          have x0 := H15.out.2.1.at 0 (v := vi p.years) rfl
          have x1 := H15.out.2.1.at 1 (v := vi p.slopes) rfl
          have x2 := H15.out.2.1.at 2 (v := .slice p.wa p.ws.length p.wc) rfl
          have x3 := H15.out.2.1.at 3 (v := .slice p.na p.ns.length p.nc) rfl
          have x4 := H15.out.2.1.at 4 (v := .slice p.va p.vs.length p.vc) rfl
          have x5 := H15.out.2.1.at 5 (v := .slice p.pa p.ps.length p.pc) rfl
          go_wp2_with fail
          refine (HRF.out _ H15.out.1).mono ?_
          rintro e w16 ⟨rfl, hb⟩
          have H17 := Lib.hid (And.intro ((newer_trans H15.out.1 hb)) (And.intro ((H15.out.2.1.below hb H15.out.2.1.lt)) (((H15.out.2.2.below hb).more hb.size))))
          clear hb H15 x0 x1 x2 x3 x4 x5
          have x0 := H17.out.2.1.at 0 (v := vi p.years) rfl
          have x1 := H17.out.2.1.at 1 (v := vi p.slopes) rfl
          have x2 := H17.out.2.1.at 2 (v := .slice p.wa p.ws.length p.wc) rfl
          have x3 := H17.out.2.1.at 3 (v := .slice p.na p.ns.length p.nc) rfl
          have x4 := H17.out.2.1.at 4 (v := .slice p.va p.vs.length p.vc) rfl
          have x5 := H17.out.2.1.at 5 (v := .slice p.pa p.ps.length p.pc) rfl
          go_wp2_with fail
          refine (HRC.out _ H17.out.1).mono ?_
          rintro e w18 ⟨⟨A9, c9, rfl, -⟩, hb⟩
          have H19 := Lib.hid (And.intro ((newer_trans H17.out.1 hb)) (And.intro ((H17.out.2.1.below hb H17.out.2.1.lt)) (((H17.out.2.2.below hb).more hb.size))))
          clear hb H17 x0 x1 x2 x3 x4 x5
          go_wp2_with (go_at_call 17; refine (wakes_any _).mono ?_; rintro e w' ⟨rfl, hwk⟩; have HWK := Lib.hid (newer_trans H19.out.1 hwk); clear hwk)
          go_ret
          exact ⟨rfl, HWK.out⟩
        | true =>
          obtain rfl : E = 0 := by
            rcases HCE.out with h | h
            · exact h
            · have := HCT.out.2 h
              cases this
          obtain rfl : rl = L := (HCT.out.1 rfl).2
          have hll : rl.length ≤ 1000 := by rw [HLL.out]; have h1 := (court_yes HFO.out HEE.out.symm).len; have h2 : p.pj.villages.length ≤ 6 := HV6.out; omega
          have HLN := Lib.hid hll
          clear HCT HCE hll
          have HIN : Hid (∀ V A B c d, Row intL 1 V V.heap.size A rl → Row intL 1 V V.heap.size B rl → Calls Try.prog 29 #[.slice A rl.length c, .slice B rl.length d] V fun e w' => e = .returned (.bool true) ∧ newer V w') := Lib.hid (fun V A B c d h1 h2 => by
            have h := lawInts rl rl A B c d V HLN.out HLN.out h1 h2
            rw [decide_eq_true (rfl : rl = rl)] at h
            exact h)
          go_enter Try.func13, Try.ntmps13
          go_wp2_with fail
          refine (HFW.out).mono ?_
          rintro e w20 ⟨rfl, hb⟩
          have H21 := Lib.hid (And.intro ((newer_trans H1.out.1 hb)) ((H1.out.2.below hb H1.out.2.lt)))
          clear hb HFW H1 x0 x1 x2 x3 x4 x5
          have x0 := H21.out.2.at 0 (v := vi p.years) rfl
          have x1 := H21.out.2.at 1 (v := vi p.slopes) rfl
          have x2 := H21.out.2.at 2 (v := .slice p.wa p.ws.length p.wc) rfl
          have x3 := H21.out.2.at 3 (v := .slice p.na p.ns.length p.nc) rfl
          have x4 := H21.out.2.at 4 (v := .slice p.va p.vs.length p.vc) rfl
          have x5 := H21.out.2.at 5 (v := .slice p.pa p.ps.length p.pc) rfl
          go_wp2_with fail
          refine (HRF.out _ H21.out.1).mono ?_
          rintro e w22 ⟨rfl, hb⟩
          have H23 := Lib.hid (And.intro ((newer_trans H21.out.1 hb)) ((H21.out.2.below hb H21.out.2.lt)))
          clear hb H21 x0 x1 x2 x3 x4 x5
          have x0 := H23.out.2.at 0 (v := vi p.years) rfl
          have x1 := H23.out.2.at 1 (v := vi p.slopes) rfl
          have x2 := H23.out.2.at 2 (v := .slice p.wa p.ws.length p.wc) rfl
          have x3 := H23.out.2.at 3 (v := .slice p.na p.ns.length p.nc) rfl
          have x4 := H23.out.2.at 4 (v := .slice p.va p.vs.length p.vc) rfl
          have x5 := H23.out.2.at 5 (v := .slice p.pa p.ps.length p.pc) rfl
          go_wp2_with fail
          refine (lawProject p w22 (HOK.out.next H23.out.1) HF.out).mono ?_
          rintro e w24 ⟨⟨p1, rfl, hj1, ho1, hpc1⟩, hb⟩
          have HJ1 := Lib.hid (And.intro hj1 hpc1)
          clear hj1 hpc1
          have H25 := Lib.hid (And.intro ((newer_trans H23.out.1 hb)) (And.intro ((H23.out.2.below hb H23.out.2.lt)) (ho1)))
          clear hb ho1 H23 x0 x1 x2 x3 x4 x5
          go_wp2_with fail
          refine (HCO.out p1 _ HJ1.out.1 H25.out.2.2 HJ1.out.2).mono ?_
          rintro e w26 ⟨⟨AL, cL, rfl, ho1⟩, hb⟩
          have H27 := Lib.hid (And.intro ((newer_trans H25.out.1 hb)) (And.intro ((H25.out.2.1.below hb H25.out.2.1.lt)) (ho1)))
          clear hb HJ1 HCO ho1 H25
          have x0 := H27.out.2.1.at 0 (v := vi p.years) rfl
          have x1 := H27.out.2.1.at 1 (v := vi p.slopes) rfl
          have x2 := H27.out.2.1.at 2 (v := .slice p.wa p.ws.length p.wc) rfl
          have x3 := H27.out.2.1.at 3 (v := .slice p.na p.ns.length p.nc) rfl
          have x4 := H27.out.2.1.at 4 (v := .slice p.va p.vs.length p.vc) rfl
          have x5 := H27.out.2.1.at 5 (v := .slice p.pa p.ps.length p.pc) rfl
          go_wp2_with fail
          refine (HRF.out _ H27.out.1).mono ?_
          rintro e w28 ⟨rfl, hb⟩
          have H29 := Lib.hid (And.intro ((newer_trans H27.out.1 hb)) (And.intro ((H27.out.2.1.below hb H27.out.2.1.lt)) (((H27.out.2.2.below hb).more hb.size))))
          clear hb H27 x0 x1 x2 x3 x4 x5
          have x0 := H29.out.2.1.at 0 (v := vi p.years) rfl
          have x1 := H29.out.2.1.at 1 (v := vi p.slopes) rfl
          have x2 := H29.out.2.1.at 2 (v := .slice p.wa p.ws.length p.wc) rfl
          have x3 := H29.out.2.1.at 3 (v := .slice p.na p.ns.length p.nc) rfl
          have x4 := H29.out.2.1.at 4 (v := .slice p.va p.vs.length p.vc) rfl
          have x5 := H29.out.2.1.at 5 (v := .slice p.pa p.ps.length p.pc) rfl
          go_wp2_with fail
          refine (HRC.out _ H29.out.1).mono ?_
          rintro e w30 ⟨⟨A9, c9, rfl, ho9⟩, hb⟩
          have H31 := Lib.hid (And.intro ((newer_trans H29.out.1 hb)) (And.intro ((H29.out.2.1.below hb H29.out.2.1.lt)) (And.intro (((H29.out.2.2.below hb).more hb.size)) (ho9))))
          clear hb ho9 H29 x0 x1 x2 x3 x4 x5
          go_wp2_with fail
          refine (HIN.out _ _ _ _ _ H31.out.2.2.1 H31.out.2.2.2).mono ?_
          rintro e w32 ⟨rfl, hb⟩
          have H33 := Lib.hid (And.intro ((newer_trans H31.out.1 hb)) (And.intro ((H31.out.2.1.below hb H31.out.2.1.lt)) (And.intro (((H31.out.2.2.1.below hb).more hb.size)) (((H31.out.2.2.2.below hb).more hb.size)))))
          clear hb H31
          go_wp2_with (go_at_call 17; refine (wakes_any _).mono ?_; rintro e w' ⟨rfl, hwk⟩; have HWK := Lib.hid (newer_trans H33.out.1 hwk); clear hwk)
          go_ret
          exact ⟨rfl, HWK.out⟩
    · have b1 : (f == 0) = false := by simpa using hf0
      have b2 : (f != 0) = true := by simpa using hf0
      obtain rfl : E = f := by rw [HEE.out, HFE.out]; unfold courtE; rw [if_neg (by rw [← HFE.out]; exact hf0)]
      obtain rfl : L = [] := by rw [HLL.out]; unfold courtL; rw [if_neg (by rw [← HFE.out]; exact hf0)]
      clear hf0
      go_enter Try.func13, Try.ntmps13
      go_wp2_with fail
      refine (HFW.out).mono ?_
      rintro e w34 ⟨rfl, hb⟩
      have H35 := Lib.hid (And.intro ((newer_trans H1.out.1 hb)) ((H1.out.2.below hb H1.out.2.lt)))
      clear hb HFW H1 x0 x1 x2 x3 x4 x5
      have x0 := H35.out.2.at 0 (v := vi p.years) rfl
      have x1 := H35.out.2.at 1 (v := vi p.slopes) rfl
      have x2 := H35.out.2.at 2 (v := .slice p.wa p.ws.length p.wc) rfl
      have x3 := H35.out.2.at 3 (v := .slice p.na p.ns.length p.nc) rfl
      have x4 := H35.out.2.at 4 (v := .slice p.va p.vs.length p.vc) rfl
      have x5 := H35.out.2.at 5 (v := .slice p.pa p.ps.length p.pc) rfl
      go_wp2_with fail
      refine (HRF.out _ H35.out.1).mono ?_
      rintro e w36 ⟨rfl, hb⟩
      have H37 := Lib.hid (And.intro ((newer_trans H35.out.1 hb)) ((H35.out.2.below hb H35.out.2.lt)))
      clear hb H35 x0 x1 x2 x3 x4 x5
      have x0 := H37.out.2.at 0 (v := vi p.years) rfl
      have x1 := H37.out.2.at 1 (v := vi p.slopes) rfl
      have x2 := H37.out.2.at 2 (v := .slice p.wa p.ws.length p.wc) rfl
      have x3 := H37.out.2.at 3 (v := .slice p.na p.ns.length p.nc) rfl
      have x4 := H37.out.2.at 4 (v := .slice p.va p.vs.length p.vc) rfl
      have x5 := H37.out.2.at 5 (v := .slice p.pa p.ps.length p.pc) rfl
      go_wp2_with fail
      refine (lawProject p w36 (HOK.out.next H37.out.1) HF.out).mono ?_
      rintro e w38 ⟨⟨p1, rfl, hj1, ho1, hpc1⟩, hb⟩
      have HJ1 := Lib.hid (And.intro hj1 hpc1)
      clear hj1 hpc1
      have H39 := Lib.hid (And.intro ((newer_trans H37.out.1 hb)) (And.intro ((H37.out.2.below hb H37.out.2.lt)) (ho1)))
      clear hb ho1 H37 x0 x1 x2 x3 x4 x5
      go_wp2_with fail
      refine (HCO.out p1 _ HJ1.out.1 H39.out.2.2 HJ1.out.2).mono ?_
      rintro e w40 ⟨⟨AL, cL, rfl, ho1⟩, hb⟩
      have H41 := Lib.hid (And.intro ((newer_trans H39.out.1 hb)) (And.intro ((H39.out.2.1.below hb H39.out.2.1.lt)) (ho1)))
      clear hb HJ1 HCO ho1 H39
      have x0 := H41.out.2.1.at 0 (v := vi p.years) rfl
      have x1 := H41.out.2.1.at 1 (v := vi p.slopes) rfl
      have x2 := H41.out.2.1.at 2 (v := .slice p.wa p.ws.length p.wc) rfl
      have x3 := H41.out.2.1.at 3 (v := .slice p.na p.ns.length p.nc) rfl
      have x4 := H41.out.2.1.at 4 (v := .slice p.va p.vs.length p.vc) rfl
      have x5 := H41.out.2.1.at 5 (v := .slice p.pa p.ps.length p.pc) rfl
      go_wp2_with fail
      refine (HRF.out _ H41.out.1).mono ?_
      rintro e w42 ⟨rfl, hb⟩
      have H43 := Lib.hid (And.intro ((newer_trans H41.out.1 hb)) (And.intro ((H41.out.2.1.below hb H41.out.2.1.lt)) (((H41.out.2.2.below hb).more hb.size))))
      clear hb H41 x0 x1 x2 x3 x4 x5
      go_wp2_with (go_at_call 17; refine (wakes_any _).mono ?_; rintro e w' ⟨rfl, hwk⟩; have HWK := Lib.hid (newer_trans H43.out.1 hwk); clear hwk)
      go_ret
      exact ⟨rfl, HWK.out⟩
set_option maxRecDepth 100000 in
set_option maxHeartbeats 1000000 in
theorem worksCourts_lifted (os : Os) (started : os.Started) (H : Type) (enc : TypeId × Value → H) :
    ReturnsInHanded {} Try.checked os 13 .any (Rows.worksCourtsSpec.pre6 enc Try.prog Try.f13 Rows.worksCourtsRow.domain false) (Rows.worksCourtsSpec.post enc Try.prog Try.f13 false true false false) := by
  refine returnsInHanded_of_change (C := Try.checked) Try.own started (by kernel_rfl) Try.func13
    (ChangeSpec.witness6 (enc := enc) (C := Try.checked) false ⟨#[], #[.agg #[.int .i64 0, .int .i64 0, .slice none 0 0, .slice none 0 0, .slice none 0 0, .slice none 0 0]], []⟩ 8 (by kernel_rfl) (by kernel_rfl) (by kernel_rfl) (by kernel_rfl)) ?_
  intro W base args ds gs before hval0 hW hcnd _
  have hval : ∀ (j : Nat) t v, Try.f13.params[j]? = some t → args[j]? = some v → Value.okWide Try.prog W .any base t v := hval0
  have hW' := hW
  obtain ⟨p, q, hA0, hV, rfl, hfz, hnd⟩ := hW
  have hA : DataW.TrodAll enc Try.prog W 0 (fun _ => true) true Try.f13.params.toList args.toList ds p := hA0
  rw [Try.params13] at hA hval
  obtain ⟨v0, vs0, d0, ds0, p0, q0, hargs, rfl, rfl, h0, r0⟩ := trodAll_cons hA
  obtain ⟨rfl, rfl, rfl⟩ := trodAll_nil r0
  obtain rfl : args = #[v0] := by cases args; simp_all
  obtain ⟨rfl, rfl⟩ := trodVars_none hV
  obtain ⟨c0, rfl, hs0⟩ := okWide_struct Try.underlying27 (hval 0 27 v0 rfl rfl)
  have k0 := h0
  have lt0 : ∀ x ∈ p0, x.block < W.heap.size := by obtain ⟨m, hm⟩ := k0; exact DataW.trod_lt m _ _ _ hm
  obtain ⟨g0, e0, hrow0⟩ : ∃ p : Pm, c0.toList = (pmC p).toList ∧ PmOk p W := by
    obtain ⟨fuel, hf⟩ := h0
    exact project_open hf
  obtain rfl : c0 = pmC g0 := Array.toList_inj.1 e0
  clear hA0 hval0
  refine (worksCourts_walk g0 W hrow0).mono fun e W' ⟨he, bel⟩ => ?_
  subst he
  exact ⟨_, rfl, _, _, _, [], _, [], hW', trodAll_mk1 (shut_bool Try.underlying4 _), (trodAll_cons_mk (Below.trod Try.laidOut (by kernel_rfl) (of_decide_eq_true (by kernel_rfl)) k0 bel lt0) trodAll_mk0), rfl, bel.frame _, fun h => by cases h⟩

theorem worksCourts_holds : Rows.WorksCourtsSaid :=
  OpenClaim.holds_of_wide 13 Try.f13 rfl rfl rfl rfl rfl rfl rfl ⟨rfl, rfl, rfl, rfl, rfl⟩ rfl rfl rfl rfl rfl (by kernel_rfl) Try.func13 (by kernel_rfl)
    (of_decide_eq_true (by kernel_rfl)) (by unfold Func.isWrapper; first | (rw [if_pos (by decide +kernel)]; kernel_rfl) | (rw [if_neg (by decide +kernel)]; exact ⟨rfl, rfl⟩))
    (fun os started H enc _ => worksCourts_lifted os started H enc)
#print axioms worksCourts_holds

end Go.Proofs.Ytpnpnfjhjjdmgaa
