/- May a statement play a project? -/
import Derived.Test.YtpnpnfjhjjdmgaaAD
namespace Go.Proofs.Ytpnpnfjhjjdmgaa
open Go.RowKit Go.Deep

/-- Is a project valid, and small enough that all plans can be tried? -/
def readyP (q : Pj) : Bool := thinP q && (decide (faultN q = 0) && ((decide (q.works.length ≤ 6) && decide (q.years ≤ 3)) || decide (q.works.length ≤ 5)))
set_option maxRecDepth 100000 in
set_option maxHeartbeats 4000000 in
theorem ready_any (p : Pm) (w : World) (hok : PmOk p w) : Calls Try.prog 35 #[pmV p] w fun e w' => e = .returned (.bool (readyP p.pj)) ∧ newer w w' := by
  have hnw := newer_allocH w (.cells (pmC p) 27)
  have hbx := Whole.made w 27 (pmC p)
  have HOK := Lib.hid hok
  have H0 := Lib.hid (And.intro hnw hbx)
  have HTH := Lib.hid (lawThin p _ (hok.next hnw))
  obtain ⟨res, hres⟩ : ∃ res, res = readyP p.pj := ⟨_, rfl⟩
  have HRS := Lib.hid hres
  rw [← hres]
  have x0 := hbx.at 0 (v := vi p.years) rfl
  have x1 := hbx.at 1 (v := vi p.slopes) rfl
  have x2 := hbx.at 2 (v := .slice p.wa p.ws.length p.wc) rfl
  have x3 := hbx.at 3 (v := .slice p.na p.ns.length p.nc) rfl
  have x4 := hbx.at 4 (v := .slice p.va p.vs.length p.vc) rfl
  have x5 := hbx.at 5 (v := .slice p.pa p.ps.length p.pc) rfl
  clear hnw hbx hok hres
  cases hth : thinP p.pj with
  | false =>
    rw [hth] at HTH
    have HRF : Hid (res = false) := Lib.hid (by rw [HRS.out]; unfold readyP; rw [hth]; rfl)
    clear hth
    go_enter Try.func35, Try.ntmps35
    go_wp2_with fail
    refine (HTH.out).mono ?_
    rintro e w1 ⟨rfl, hb⟩
    have H1 := Lib.hid (newer_trans H0.out.1 hb)
    clear hb H0 x0 x1 x2 x3 x4 x5
    go_wp2_with fail
    go_ret
    exact ⟨by rw [HRF.out] <;> rfl, H1.out⟩
  | true =>
    rw [hth] at HTH
    have HF := Lib.hid (thin_few hth)
    have HTP := Lib.hid hth
    clear hth
    obtain ⟨f, hf⟩ : ∃ f, f = faultN p.pj := ⟨_, rfl⟩
    have HFE := Lib.hid hf
    have hRF := fun V hV => refFault p V (HOK.out.next hV) HF.out
    rw [← hf] at hRF
    have HRF := Lib.hid hRF
    clear hf hRF
    by_cases hf0 : f = 0
    case neg =>
      have b2 : (f == 0) = false := by simpa using hf0
      have HRT : Hid (res = false) := Lib.hid (by rw [HRS.out]; unfold readyP; rw [HTP.out, decide_eq_false (show ¬ faultN p.pj = 0 by rw [← HFE.out]; exact hf0)]; rfl)
      clear hf0
      go_enter Try.func35, Try.ntmps35
      go_wp2_with fail
      refine (HTH.out).mono ?_
      rintro e w1 ⟨rfl, hb⟩
      have H1 := Lib.hid (And.intro (newer_trans H0.out.1 hb) (H0.out.2.below hb H0.out.2.lt))
      clear hb H0 x0 x1 x2 x3 x4 x5
      have x0 := H1.out.2.at 0 (v := vi p.years) rfl
      have x1 := H1.out.2.at 1 (v := vi p.slopes) rfl
      have x2 := H1.out.2.at 2 (v := .slice p.wa p.ws.length p.wc) rfl
      have x3 := H1.out.2.at 3 (v := .slice p.na p.ns.length p.nc) rfl
      have x4 := H1.out.2.at 4 (v := .slice p.va p.vs.length p.vc) rfl
      have x5 := H1.out.2.at 5 (v := .slice p.pa p.ps.length p.pc) rfl
      go_wp2_with fail
      refine (HRF.out _ H1.out.1).mono ?_
      rintro e w2 ⟨rfl, hb⟩
      have H2 := Lib.hid (newer_trans H1.out.1 hb)
      clear hb H1 HRF x0 x1 x2 x3 x4 x5
      go_wp2_with fail
      go_ret
      exact ⟨by rw [HRT.out] <;> rfl, H2.out⟩
    subst hf0
    have HRW : Hid (res = ((decide (p.ws.length ≤ 6) && decide (p.years ≤ 3)) || decide (p.ws.length ≤ 5))) := Lib.hid (by
      rw [HRS.out]
      unfold readyP
      rw [HTP.out, decide_eq_true HFE.out.symm, show p.pj.works.length = p.ws.length by simp [Pm.pj], show p.pj.years = p.years from rfl]
      rfl)
    go_enter Try.func35, Try.ntmps35
    go_wp2_with fail
    refine (HTH.out).mono ?_
    rintro e w1 ⟨rfl, hb⟩
    have H1 := Lib.hid (And.intro (newer_trans H0.out.1 hb) (H0.out.2.below hb H0.out.2.lt))
    clear hb H0 x0 x1 x2 x3 x4 x5
    have x0 := H1.out.2.at 0 (v := vi p.years) rfl
    have x1 := H1.out.2.at 1 (v := vi p.slopes) rfl
    have x2 := H1.out.2.at 2 (v := .slice p.wa p.ws.length p.wc) rfl
    have x3 := H1.out.2.at 3 (v := .slice p.na p.ns.length p.nc) rfl
    have x4 := H1.out.2.at 4 (v := .slice p.va p.vs.length p.vc) rfl
    have x5 := H1.out.2.at 5 (v := .slice p.pa p.ps.length p.pc) rfl
    go_wp2_with fail
    refine (HRF.out _ H1.out.1).mono ?_
    rintro e w2 ⟨rfl, hb⟩
    have H2 := Lib.hid (And.intro (newer_trans H1.out.1 hb) (H1.out.2.below hb H1.out.2.lt))
    clear hb H1 HRF x0 x1 x2 x3 x4 x5
    have x0 := H2.out.2.at 0 (v := vi p.years) rfl
    have x1 := H2.out.2.at 1 (v := vi p.slopes) rfl
    have x2 := H2.out.2.at 2 (v := .slice p.wa p.ws.length p.wc) rfl
    have x3 := H2.out.2.at 3 (v := .slice p.na p.ns.length p.nc) rfl
    have x4 := H2.out.2.at 4 (v := .slice p.va p.vs.length p.vc) rfl
    have x5 := H2.out.2.at 5 (v := .slice p.pa p.ps.length p.pc) rfl
    by_cases c6 : p.ws.length ≤ 6
    · have i6 : (p.ws.length : Int) ≤ 6 := by omega
      by_cases c3 : p.years ≤ 3
      · have HRR : Hid (res = true) := Lib.hid (by rw [HRW.out, decide_eq_true c6, decide_eq_true c3]; rfl)
        go_wp2_with fail
        go_ret
        exact ⟨by rw [HRR.out] <;> rfl, H2.out.1⟩
      · by_cases c5 : p.ws.length ≤ 5
        · have i5 : (p.ws.length : Int) ≤ 5 := by omega
          have HRR : Hid (res = true) := Lib.hid (by rw [HRW.out, decide_eq_true c6, decide_eq_false c3, decide_eq_true c5]; rfl)
          go_wp2_with fail
          go_ret
          exact ⟨by rw [HRR.out] <;> rfl, H2.out.1⟩
        · have i5 : ¬ ((p.ws.length : Int) ≤ 5) := by omega
          have HRR : Hid (res = false) := Lib.hid (by rw [HRW.out, decide_eq_true c6, decide_eq_false c3, decide_eq_false c5]; rfl)
          go_wp2_with fail
          go_ret
          exact ⟨by rw [HRR.out]; simp; omega, H2.out.1⟩
    · have i6 : ¬ ((p.ws.length : Int) ≤ 6) := by omega
      have i5 : ¬ ((p.ws.length : Int) ≤ 5) := by omega
      have HRR : Hid (res = false) := Lib.hid (by rw [HRW.out, decide_eq_false c6, decide_eq_false (show ¬ p.ws.length ≤ 5 by omega)]; rfl)
      go_wp2_with fail
      go_ret
      exact ⟨by rw [HRR.out]; simp; omega, H2.out.1⟩
end Go.Proofs.Ytpnpnfjhjjdmgaa
