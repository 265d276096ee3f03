/- What a plan costs, by the reference; the few projects of which all plans are tried. -/
import Derived.Test.YtpnpnfjhjjdmgaaAJ
namespace Go.Proofs.Ytpnpnfjhjjdmgaa
open Go.RowKit Go.Deep

def costT (ws : List Wd) (plan : List Int) : List Int := (plan.zip ws).map fun q => if 0 ≤ q.1 then q.2.price else 0
/-- What a plan costs. -/
def costN (ws : List Wd) (plan : List Int) : Int := (costT ws plan).sum
theorem costT_bd {ws : List Wd} {plan : List Int} (h : ∀ x ∈ ws, 0 ≤ x.price ∧ x.price ≤ 1000000) : ∀ z ∈ costT ws plan, 0 ≤ z ∧ z ≤ 1000000 := by
  intro z hz
  unfold costT at hz
  obtain ⟨q, hq, rfl⟩ := List.mem_map.1 hz
  have := h q.2 (List.of_mem_zip hq).2
  split <;> omega
theorem costT_at {ws : List Wd} {plan : List Int} {b : Int} {k : Nat} {x : Wd} (h1 : plan[k]? = some b) (h2 : ws[k]? = some x) : (costT ws plan)[k]? = some (if 0 ≤ b then x.price else 0) := by
  unfold costT
  rw [List.getElem?_map, zip_at h1 h2]
  rfl
set_option maxRecDepth 100000 in
set_option maxHeartbeats 4000000 in
theorem refCost (p : Pm) (plan : List Int) (L : Option Addr) (lp : Nat) (w : World) (hok : PmOk p w) (hpo : PjOk p) (hl : plan.length = p.ws.length) (hr : Row intL 1 w w.heap.size L plan) :
    Calls Try.prog 30 #[pmV p, .slice L plan.length lp] w fun e w' => e = .returned (vi (costN p.pj.works plan)) ∧ newer w w' := by
  have hnw := newer_allocH w (.cells (pmC p) 27)
  have H0 := Lib.hid (And.intro hnw (Whole.made w 27 (pmC p)))
  have HOK := Lib.hid hok
  have HR := Lib.hid hr
  have HLE := Lib.hid hl
  have hpn : plan.length ≤ 8 := by have h2 := hpo.wn; omega
  have HPB : Hid (∀ x ∈ p.pj.works, 0 ≤ x.price ∧ x.price ≤ 1000000) := Lib.hid (fun x hx => by
    obtain ⟨z, hz, rfl⟩ := List.mem_map.1 hx
    have := (wdB_parts (hpo.ws z hz)).1
    omega)
  have HWG : Hid (∀ (k : Nat) (x : Wk), p.ws[k]? = some x → p.pj.works[k]? = some x.d) := Lib.hid (fun k x hx => by simp [Pm.pj, hx])
  have HTL : Hid ((costT p.pj.works plan).length = plan.length) := Lib.hid (by
    unfold costT
    rw [List.length_map, List.length_zip, show p.pj.works.length = p.ws.length by simp [Pm.pj]]
    omega)
  have HBD := Lib.hid (costT_bd (plan := plan) HPB.out)
  unfold costN
  obtain ⟨tl, htl⟩ : ∃ tl, tl = costT p.pj.works plan := ⟨_, rfl⟩
  rw [← htl] at HTL HBD ⊢
  have HT := Lib.hid htl
  clear hnw hok hr htl hpo hl
  go_enter Try.func30, Try.ntmps30
  go_wp2_with fail
  obtain ⟨aa, haa⟩ : ∃ aa, aa = L := ⟨_, rfl⟩
  rw [← haa]
  have HAA := Lib.hid haa
  clear haa
  go_loopw [5, 6] (fun s5 s6 wr => ∃ k : Nat, k ≤ plan.length ∧ s6 = .int .i64 k ∧ s5 = vi (tl.take k).sum ∧ newer w wr ∧ Whole wr w.heap.size 27 (pmC p)) (fun _ s6 _ => plan.length - (intOf s6).toNat)
  case atStart => exact ⟨0, Nat.zero_le _, rfl, rfl, H0.out.1, H0.out.2⟩
  case round =>
    obtain ⟨k, hk, rfl, rfl, hbw, hbx⟩ := hrel
    clear H0
    by_cases hlt : k < plan.length
    · have hln := HLE.out
      have hkp : (k : Int) < plan.length := by omega
      have hkn : (k : Int) < p.ws.length := by omega
      obtain ⟨y, hy⟩ := get_of_lt hlt
      obtain ⟨x, hx⟩ := get_of_lt (l := p.ws) (k := k) (by omega)
      have x2 := hbx.at 2 (v := .slice p.wa p.ws.length p.wc) rfl
      obtain ⟨b2, o2, e2, _, d0, _⟩ := row6 (HOK.out.next hbw).ws hx
      rw [e2] at x2
      obtain ⟨b3, o3, e3, _, cy⟩ := row1 ((HR.out.below hbw).more hbw.size) hy
      have e5 := HAA.out.trans e3
      clear e3 HAA
      subst e5
      have htk : tl[k]? = some (if 0 ≤ y then x.d.price else 0) := by rw [HT.out]; exact costT_at hy (HWG.out k x hx)
      have hst := sum_take htk
      clear htk
      have hcb := take_sum_bd (by omega) HBD.out k
      have hxb := HPB.out x.d (List.mem_of_getElem? (HWG.out k x hx))
      obtain ⟨ac, hac⟩ : ∃ ac, ac = (tl.take k).sum := ⟨_, rfl⟩
      rw [← hac] at hcb hst ⊢
      have HB := Lib.hid (And.intro hbw hbx)
      by_cases hyk : 0 ≤ y
      · rw [if_pos hyk] at hst
        obtain ⟨su, hsu⟩ : ∃ su, su = ac + x.d.price := ⟨_, rfl⟩
        have esu : IntKind.i64.wrap (ac + x.d.price) = su := by rw [hsu]; exact IntWalk.i64_in _ (by omega)
        have HNX : Hid (su = (tl.take (k + 1)).sum) := Lib.hid (by rw [hst, hsu])
        clear hbw hbx hy hx hst hsu hac hcb e2 hln hxb
        go_wp2_with fail
        go_roundw
        case rel => exact ⟨k + 1, by omega, by go_num, by rw [← HNX.out], HB.out.1, HB.out.2⟩
        case measure => simp [intOf]; omega
      · rw [if_neg hyk] at hst
        have HNX : Hid (ac = (tl.take (k + 1)).sum) := Lib.hid (by rw [hst]; omega)
        clear hbw hbx hy hx hst hac hcb e2 hln hxb
        go_wp2_with fail
        go_roundw
        case rel => exact ⟨k + 1, by omega, by go_num, by rw [← HNX.out], HB.out.1, HB.out.2⟩
        case measure => simp [intOf]; omega
    · obtain rfl : k = plan.length := by omega
      have hkp : ¬ ((plan.length : Int) < plan.length) := by omega
      have HNN := Lib.hid hbw
      have HTS : Hid ((tl.take plan.length).sum = tl.sum) := Lib.hid (by rw [← HTL.out, List.take_length])
      clear hbw hbx
      go_wp2_with fail
      go_ret
      exact ⟨by rw [HTS.out] <;> rfl, HNN.out⟩
/-- Is a project not valid, or has it few works and years? -/
def fewP (q : Pj) : Bool := thinP q && (decide (faultN q ≠ 0) || ((decide (q.works.length ≤ 4) && decide (q.years ≤ 3)) || (decide (q.works.length ≤ 6) && decide (q.years = 1))))
set_option maxRecDepth 100000 in
set_option maxHeartbeats 4000000 in
theorem lawFew (p : Pm) (w : World) (hok : PmOk p w) : Calls Try.prog 26 #[pmV p] w fun e w' => e = .returned (.bool (fewP p.pj)) ∧ newer w w' := by
  have hnw := newer_allocH w (.cells (pmC p) 27)
  have hbx := Whole.made w 27 (pmC p)
  have HOK := Lib.hid hok
  have H0 := Lib.hid (And.intro hnw hbx)
  have HTH := Lib.hid (fun V (hV : newer w V) => lawThin p V (hok.next hV))
  obtain ⟨res, hres⟩ : ∃ res, res = fewP p.pj := ⟨_, rfl⟩
  have HRS := Lib.hid hres
  rw [← hres]
  have x0 := hbx.at 0 (v := vi p.years) rfl
  have x1 := hbx.at 1 (v := vi p.slopes) rfl
  have x2 := hbx.at 2 (v := .slice p.wa p.ws.length p.wc) rfl
  have x3 := hbx.at 3 (v := .slice p.na p.ns.length p.nc) rfl
  have x4 := hbx.at 4 (v := .slice p.va p.vs.length p.vc) rfl
  have x5 := hbx.at 5 (v := .slice p.pa p.ps.length p.pc) rfl
  clear hnw hbx hok hres
  cases hth : thinP p.pj with
  | false =>
    rw [hth] at HTH
    have HRF : Hid (res = false) := Lib.hid (by rw [HRS.out]; unfold fewP; rw [hth]; rfl)
    clear hth
    go_enter Try.func26, Try.ntmps26
    go_wp2_with fail
    refine (HTH.out _ H0.out.1).mono ?_
    rintro e w1 ⟨rfl, hb⟩
    have H1 := Lib.hid (And.intro (newer_trans H0.out.1 hb) (H0.out.2.below hb H0.out.2.lt))
    clear hb H0 x0 x1 x2 x3 x4 x5
    have x0 := H1.out.2.at 0 (v := vi p.years) rfl
    have x1 := H1.out.2.at 1 (v := vi p.slopes) rfl
    have x2 := H1.out.2.at 2 (v := .slice p.wa p.ws.length p.wc) rfl
    have x3 := H1.out.2.at 3 (v := .slice p.na p.ns.length p.nc) rfl
    have x4 := H1.out.2.at 4 (v := .slice p.va p.vs.length p.vc) rfl
    have x5 := H1.out.2.at 5 (v := .slice p.pa p.ps.length p.pc) rfl
    go_wp2_with fail
    refine (HTH.out _ H1.out.1).mono ?_
    rintro e w2 ⟨rfl, hb⟩
    have H2 := Lib.hid (newer_trans H1.out.1 hb)
    clear hb H1 x0 x1 x2 x3 x4 x5
    go_wp2_with fail
    go_ret
    exact ⟨by rw [HRF.out] <;> rfl, H2.out⟩
  | true =>
    rw [hth] at HTH
    have HF := Lib.hid (thin_few hth)
    have HTP := Lib.hid hth
    clear hth
    obtain ⟨f, hf⟩ : ∃ f, f = faultN p.pj := ⟨_, rfl⟩
    have HFE := Lib.hid hf
    have hRF := fun V hV => refFault p V (HOK.out.next hV) HF.out
    rw [← hf] at hRF
    have HRF := Lib.hid hRF
    clear hf hRF
    go_enter Try.func26, Try.ntmps26
    go_wp2_with fail
    refine (HTH.out _ H0.out.1).mono ?_
    rintro e w1 ⟨rfl, hb⟩
    have H1 := Lib.hid (And.intro (newer_trans H0.out.1 hb) (H0.out.2.below hb H0.out.2.lt))
    clear hb H0 x0 x1 x2 x3 x4 x5
    have x0 := H1.out.2.at 0 (v := vi p.years) rfl
    have x1 := H1.out.2.at 1 (v := vi p.slopes) rfl
    have x2 := H1.out.2.at 2 (v := .slice p.wa p.ws.length p.wc) rfl
    have x3 := H1.out.2.at 3 (v := .slice p.na p.ns.length p.nc) rfl
    have x4 := H1.out.2.at 4 (v := .slice p.va p.vs.length p.vc) rfl
    have x5 := H1.out.2.at 5 (v := .slice p.pa p.ps.length p.pc) rfl
    go_wp2_with fail
    refine (HRF.out _ H1.out.1).mono ?_
    rintro e w2 ⟨rfl, hb⟩
    have H2 := Lib.hid (And.intro (newer_trans H1.out.1 hb) (H1.out.2.below hb H1.out.2.lt))
    clear hb H1 HRF x0 x1 x2 x3 x4 x5
    have x0 := H2.out.2.at 0 (v := vi p.years) rfl
    have x1 := H2.out.2.at 1 (v := vi p.slopes) rfl
    have x2 := H2.out.2.at 2 (v := .slice p.wa p.ws.length p.wc) rfl
    have x3 := H2.out.2.at 3 (v := .slice p.na p.ns.length p.nc) rfl
    have x4 := H2.out.2.at 4 (v := .slice p.va p.vs.length p.vc) rfl
    have x5 := H2.out.2.at 5 (v := .slice p.pa p.ps.length p.pc) rfl
    by_cases hf0 : f = 0
    case neg =>
      have b2 : (f != 0) = true := by simpa using hf0
      have HRT : Hid (res = true) := Lib.hid (by rw [HRS.out]; unfold fewP; rw [HTP.out, decide_eq_true (show faultN p.pj ≠ 0 by rw [← HFE.out]; exact hf0)]; rfl)
      clear hf0
      go_wp2_with fail
      refine (HTH.out _ H2.out.1).mono ?_
      rintro e w3 ⟨rfl, hb⟩
      have H3 := Lib.hid (newer_trans H2.out.1 hb)
      clear hb H2 x0 x1 x2 x3 x4 x5
      go_wp2_with fail
      go_ret
      exact ⟨by rw [HRT.out] <;> rfl, H3.out⟩
    subst hf0
    have HRW : Hid (res = ((decide (p.ws.length ≤ 4) && decide (p.years ≤ 3)) || (decide (p.ws.length ≤ 6) && decide (p.years = 1)))) := Lib.hid (by
      rw [HRS.out]
      unfold fewP
      rw [HTP.out, decide_eq_false (show ¬ (faultN p.pj ≠ 0) by rw [← HFE.out]; simp), show p.pj.works.length = p.ws.length by simp [Pm.pj], show p.pj.years = p.years from rfl]
      rfl)
    by_cases c1 : p.ws.length ≤ 4
    · have i1 : (p.ws.length : Int) ≤ 4 := by omega
      have i3 : (p.ws.length : Int) ≤ 6 := by omega
      by_cases c2 : p.years ≤ 3
      · have HRR : Hid (res = true) := Lib.hid (by rw [HRW.out, decide_eq_true c1, decide_eq_true c2]; rfl)
        clear c1
        go_wp2_with fail
        go_ret
        exact ⟨by rw [HRR.out] <;> rfl, H2.out.1⟩
      · have c3 : (p.years == 1) = false := by rw [beq_eq_false_iff_ne]; omega
        have HRR : Hid (res = false) := Lib.hid (by rw [HRW.out, decide_eq_true c1, decide_eq_false c2, decide_eq_false (show ¬ p.years = 1 by omega)]; simp)
        clear c1
        go_wp2_with fail
        go_ret
        exact ⟨by rw [HRR.out]; show Ending.returned (Value.bool (decide (p.years ≤ 3))) = _; rw [decide_eq_false (show ¬ (p.years ≤ 3) by omega)], H2.out.1⟩
    · have i1 : ¬ ((p.ws.length : Int) ≤ 4) := by omega
      by_cases c3 : p.ws.length ≤ 6
      · have i3 : (p.ws.length : Int) ≤ 6 := by omega
        by_cases c2 : p.years = 1
        · have c4 : (p.years == 1) = true := by rw [beq_iff_eq]; exact c2
          have HRR : Hid (res = true) := Lib.hid (by rw [HRW.out, decide_eq_true c3, decide_eq_true c2]; simp)
          clear c1 c2 c3
          go_wp2_with fail
          go_ret
          exact ⟨by rw [HRR.out] <;> rfl, H2.out.1⟩
        · have c4 : (p.years == 1) = false := by rw [beq_eq_false_iff_ne]; exact c2
          have HRR : Hid (res = false) := Lib.hid (by rw [HRW.out, decide_eq_false c1, decide_eq_false c2]; simp)
          clear c1 c2 c3
          go_wp2_with fail
          go_ret
          exact ⟨by rw [HRR.out] <;> rfl, H2.out.1⟩
      · have i3 : ¬ ((p.ws.length : Int) ≤ 6) := by omega
        have HRR : Hid (res = false) := Lib.hid (by rw [HRW.out, decide_eq_false c1, decide_eq_false c3]; rfl)
        clear c1 c3
        go_wp2_with fail
        go_ret
        exact ⟨by rw [HRR.out] <;> rfl, H2.out.1⟩
end Go.Proofs.Ytpnpnfjhjjdmgaa
