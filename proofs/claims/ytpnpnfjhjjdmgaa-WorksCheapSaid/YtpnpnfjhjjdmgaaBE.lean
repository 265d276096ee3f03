/- WorksCheap, walked: it returns true, whatever the project, the words, the shares and the bound. -/
import Derived.Test.YtpnpnfjhjjdmgaaBD
namespace Go.Proofs.Ytpnpnfjhjjdmgaa
open Go.ChangeShapes Go.WideShapes Go.ChangeAt Go.RowKit Go.Deep

set_option maxRecDepth 100000 in
set_option maxHeartbeats 8000000 in
theorem worksCheap_walk (p : Pm) (bs : List Byt) (B : Option Addr) (bc : Nat) (sh : List Int) (A0 : Option Addr) (ac : Nat) (bo : Int) (w : World) (hb0 : 0 ≤ bo) (hb1 : bo ≤ 4294967295) (hbl : bs.length ≤ maxLen) (hsl : sh.length ≤ maxLen) (hok : PmOk p w) (hrb : Row byL 1 w w.heap.size B bs) (hrs : Row intL 1 w w.heap.size A0 sh) :
    Calls Try.prog 11 #[pmV p, .slice B bs.length bc, .slice A0 sh.length ac, .int .u32 bo] w fun e w' => e = .returned (.bool true) ∧ newer w w' := by
  have hnw := newer_allocH w (.cells (pmC p) 27)
  have hbx := Whole.made w 27 (pmC p)
  have HOK := Lib.hid hok
  have HRD := Lib.hid (ready_any p _ (hok.next hnw))
  have HRB := Lib.hid hrb
  have HRS := Lib.hid hrs
  have HBL := Lib.hid hbl
  have HSM := Lib.hid hsl
  have H1 := Lib.hid (And.intro (hnw) (hbx))
  clear hnw hbx hok hrb hrs hbl hsl
  have x0 := H1.out.2.at 0 (v := vi p.years) rfl
  have x1 := H1.out.2.at 1 (v := vi p.slopes) rfl
  have x2 := H1.out.2.at 2 (v := .slice p.wa p.ws.length p.wc) rfl
  have x3 := H1.out.2.at 3 (v := .slice p.na p.ns.length p.nc) rfl
  have x4 := H1.out.2.at 4 (v := .slice p.va p.vs.length p.vc) rfl
  have x5 := H1.out.2.at 5 (v := .slice p.pa p.ps.length p.pc) rfl
  cases hrd : readyP p.pj with
  | false =>
    rw [hrd] at HRD
    clear hrd
    go_enter Try.func11, Try.ntmps11
    go_wp2_with fail
    refine (HRD.out).mono ?_
    rintro e w2 ⟨rfl, hb⟩
    have H3 := Lib.hid (And.intro ((newer_trans H1.out.1 hb)) ((H1.out.2.below hb H1.out.2.lt)))
    clear hb H1 x0 x1 x2 x3 x4 x5
    go_wp2_with (go_at_call 17; refine (wakes_any _).mono ?_; rintro e w' ⟨rfl, hwk⟩; have HWK := Lib.hid (newer_trans H3.out.1 hwk); clear hwk)
    go_ret
    exact ⟨rfl, HWK.out⟩
  | true =>
    rw [hrd] at HRD
    have HTP := Lib.hid (ready_parts hrd).1
    have HF := Lib.hid (thin_few HTP.out)
    have HFZ := Lib.hid (ready_parts hrd).2
    have HPO := Lib.hid (fault_ok HFZ.out)
    have HFO := Lib.hid (faultOk_iff.1 HFZ.out)
    clear hrd
    by_cases hl : 25 < sh.length
    · have hli : (25 : Int) < sh.length := by omega
      clear hl
      go_enter Try.func11, Try.ntmps11
      go_wp2_with fail
      refine (HRD.out).mono ?_
      rintro e w4 ⟨rfl, hb⟩
      have H5 := Lib.hid (And.intro ((newer_trans H1.out.1 hb)) ((H1.out.2.below hb H1.out.2.lt)))
      clear hb H1 x0 x1 x2 x3 x4 x5
      go_wp2_with (go_at_call 17; refine (wakes_any _).mono ?_; rintro e w' ⟨rfl, hwk⟩; have HWK := Lib.hid (newer_trans H5.out.1 hwk); clear hwk)
      go_ret
      exact ⟨rfl, HWK.out⟩
    · have hli : ¬ ((25 : Int) < sh.length) := by omega
      have HSL : Hid (sh.length ≤ 1000) := Lib.hid (by omega)
      clear hl
      obtain ⟨q, hq⟩ : ∃ q, q = p.pj := ⟨_, rfl⟩
      have HQ := Lib.hid hq
      obtain ⟨E, hE⟩ : ∃ E, E = bestE q := ⟨_, rfl⟩
      have HEE := Lib.hid hE
      obtain ⟨bl, hbl⟩ : ∃ bl, bl = bestL q := ⟨_, rfl⟩
      have HBB := Lib.hid hbl
      obtain ⟨cn, hcn⟩ : ∃ cn, cn = costOf (bestR q) := ⟨_, rfl⟩
      have HCN := Lib.hid hcn
      obtain ⟨ch, hch⟩ : ∃ ch, ch = chP q bs := ⟨_, rfl⟩
      have HCH := Lib.hid hch
      obtain ⟨sb, hsb⟩ : ∃ sb, sb = suffB q ch := ⟨_, rfl⟩
      have HSB := Lib.hid hsb
      clear hq hE hbl hcn hch hsb
      rw [← HQ.out] at HTP HFZ HFO
      have HCL : Hid (ch.length ≤ 1000) := Lib.hid (by rw [HCH.out, chP_len]; have := HFO.out.wn; omega)
      have HBT := Lib.hid (fun (p1 : Pm) (V : World) (hj : p1.pj = p.pj) (hok : PmOk p1 V) (hpc : p1.ps.length ≤ p1.pc) => best_list (hj.trans HQ.out.symm) hok (thin_few (by rw [hj, ← HQ.out]; exact HTP.out)) hpc)
      rw [← HBB.out, ← HCN.out, ← HEE.out] at HBT
      have HCC := Lib.hid (fun (V : World) (hV : newer w V) => chosen_any p bs B bc V (HOK.out.next hV) HPO.out HBL.out ((HRB.out.below hV).more hV.size))
      rw [← HQ.out, ← HCH.out] at HCC
      go_enter Try.func11, Try.ntmps11
      go_wp2_with fail
      refine (HRD.out).mono ?_
      rintro e w6 ⟨rfl, hb⟩
      have H7 := Lib.hid (And.intro ((newer_trans H1.out.1 hb)) ((H1.out.2.below hb H1.out.2.lt)))
      clear hb HRD H1 x0 x1 x2 x3 x4 x5
      have x0 := H7.out.2.at 0 (v := vi p.years) rfl
      have x1 := H7.out.2.at 1 (v := vi p.slopes) rfl
      have x2 := H7.out.2.at 2 (v := .slice p.wa p.ws.length p.wc) rfl
      have x3 := H7.out.2.at 3 (v := .slice p.na p.ns.length p.nc) rfl
      have x4 := H7.out.2.at 4 (v := .slice p.va p.vs.length p.vc) rfl
      have x5 := H7.out.2.at 5 (v := .slice p.pa p.ps.length p.pc) rfl
      go_wp2_with fail
      refine (lawProject p w6 (HOK.out.next H7.out.1) HF.out).mono ?_
      rintro e w8 ⟨⟨p1, rfl, hj1, ho1, hpc1⟩, hb⟩
      have HJ1 := Lib.hid (And.intro hj1 hpc1)
      clear hj1 hpc1
      have H9 := Lib.hid (And.intro ((newer_trans H7.out.1 hb)) (And.intro ((H7.out.2.below hb H7.out.2.lt)) (ho1)))
      clear hb ho1 H7 x0 x1 x2 x3 x4 x5
      go_wp2_with fail
      refine (HBT.out p1 _ HJ1.out.1 H9.out.2.2 HJ1.out.2).mono ?_
      rintro e w10 ⟨⟨AB, cB, rfl, ho1⟩, hb⟩
      have H11 := Lib.hid (And.intro ((newer_trans H9.out.1 hb)) (And.intro ((H9.out.2.1.below hb H9.out.2.1.lt)) (ho1)))
      clear hb HJ1 HBT ho1 H9
      have x0 := H11.out.2.1.at 0 (v := vi p.years) rfl
      have x1 := H11.out.2.1.at 1 (v := vi p.slopes) rfl
      have x2 := H11.out.2.1.at 2 (v := .slice p.wa p.ws.length p.wc) rfl
      have x3 := H11.out.2.1.at 3 (v := .slice p.na p.ns.length p.nc) rfl
      have x4 := H11.out.2.1.at 4 (v := .slice p.va p.vs.length p.vc) rfl
      have x5 := H11.out.2.1.at 5 (v := .slice p.pa p.ps.length p.pc) rfl
      go_wp2_with fail
      refine (HCC.out _ H11.out.1).mono ?_
      rintro e w12 ⟨⟨AC, cC, rfl, ho1⟩, hb⟩
      have H13 := Lib.hid (And.intro ((newer_trans H11.out.1 hb)) (And.intro ((H11.out.2.1.below hb H11.out.2.1.lt)) (And.intro (((H11.out.2.2.below hb).more hb.size)) (ho1))))
      clear hb HCC ho1 H11 x0 x1 x2 x3 x4 x5
      by_cases hE : E = 0
      case neg =>
        have hns := none_suff (l := ch) HFZ.out (by rw [← HEE.out]; exact hE)
        obtain rfl : E = 9 := HEE.out.trans hns.1
        obtain rfl : sb = false := HSB.out.trans hns.2.2
        clear hE hns
        have x0 := H13.out.2.1.at 0 (v := vi p.years) rfl
        have x1 := H13.out.2.1.at 1 (v := vi p.slopes) rfl
        have x2 := H13.out.2.1.at 2 (v := .slice p.wa p.ws.length p.wc) rfl
        have x3 := H13.out.2.1.at 3 (v := .slice p.na p.ns.length p.nc) rfl
        have x4 := H13.out.2.1.at 4 (v := .slice p.va p.vs.length p.vc) rfl
        have x5 := H13.out.2.1.at 5 (v := .slice p.pa p.ps.length p.pc) rfl
        go_wp2_with fail
        refine (lawProject p w12 (HOK.out.next H13.out.1) HF.out).mono ?_
        rintro e w14 ⟨⟨p1, rfl, hj1, ho1, hpc1⟩, hb⟩
        have HJ1 := Lib.hid (And.intro hj1 hpc1)
        clear hj1 hpc1
        have H15 := Lib.hid (And.intro ((newer_trans H13.out.1 hb)) (And.intro ((H13.out.2.1.below hb H13.out.2.1.lt)) (And.intro (((H13.out.2.2.1.below hb).more hb.size)) (And.intro (((H13.out.2.2.2.below hb).more hb.size)) (ho1)))))
        clear hb ho1 H13 x0 x1 x2 x3 x4 x5
        go_wp2_with fail
        refine (list_copy HCL.out H15.out.2.2.2.1).mono ?_
        rintro e w16 ⟨⟨A1, c1, rfl, ho1⟩, hb⟩
        have H17 := Lib.hid (And.intro ((newer_trans H15.out.1 hb)) (And.intro ((H15.out.2.1.below hb H15.out.2.1.lt)) (And.intro (((H15.out.2.2.1.below hb).more hb.size)) (And.intro (((H15.out.2.2.2.1.below hb).more hb.size)) (And.intro ((H15.out.2.2.2.2.next hb)) (ho1))))))
        clear hb ho1 H15
        go_wp2_with fail
        refine (suffices_of (HJ1.out.1.trans HQ.out.symm) H17.out.2.2.2.2.1 (thin_few (by rw [HJ1.out.1, ← HQ.out]; exact HTP.out)) HCL.out HJ1.out.2 H17.out.2.2.2.2.2).mono ?_
        rintro e w18 ⟨rfl, hb⟩
        have H19 := Lib.hid (And.intro ((newer_trans H17.out.1 hb)) (And.intro ((H17.out.2.1.below hb H17.out.2.1.lt)) (And.intro (((H17.out.2.2.1.below hb).more hb.size)) (((H17.out.2.2.2.1.below hb).more hb.size)))))
        clear hb HJ1 H17
        rw [← HSB.out]
        go_wp2_with (go_at_call 17; refine (wakes_any _).mono ?_; rintro e w' ⟨rfl, hwk⟩; have HWK := Lib.hid (newer_trans H19.out.1 hwk); clear hwk)
        go_ret
        exact ⟨rfl, HWK.out⟩
      subst hE
      have HSO := Lib.hid (some_best HFZ.out HEE.out.symm)
      rw [← HBB.out, ← HCN.out] at HSO
      have HBL2 : Hid (bl.length ≤ 1000) := Lib.hid (by have h := (plan_iff.1 HSO.out.1).1; have := HFO.out.wn; omega)
      have HWL : Hid (q.works.length = p.ws.length) := Lib.hid (by rw [HQ.out]; simp [Pm.pj])
      have x0 := H13.out.2.1.at 0 (v := vi p.years) rfl
      have x1 := H13.out.2.1.at 1 (v := vi p.slopes) rfl
      have x2 := H13.out.2.1.at 2 (v := .slice p.wa p.ws.length p.wc) rfl
      have x3 := H13.out.2.1.at 3 (v := .slice p.na p.ns.length p.nc) rfl
      have x4 := H13.out.2.1.at 4 (v := .slice p.va p.vs.length p.vc) rfl
      have x5 := H13.out.2.1.at 5 (v := .slice p.pa p.ps.length p.pc) rfl
      go_wp2_with fail
      refine (refIsPlan p bl AB cB _ (HOK.out.next H13.out.1) HBL2.out H13.out.2.2.1).mono ?_
      rintro e w20 ⟨rfl, hb⟩
      have H21 := Lib.hid (And.intro ((newer_trans H13.out.1 hb)) (And.intro ((H13.out.2.1.below hb H13.out.2.1.lt)) (And.intro (((H13.out.2.2.1.below hb).more hb.size)) (((H13.out.2.2.2.below hb).more hb.size)))))
      clear hb H13 x0 x1 x2 x3 x4 x5
      rw [← HQ.out, HSO.out.1]
      have x0 := H21.out.2.1.at 0 (v := vi p.years) rfl
      have x1 := H21.out.2.1.at 1 (v := vi p.slopes) rfl
      have x2 := H21.out.2.1.at 2 (v := .slice p.wa p.ws.length p.wc) rfl
      have x3 := H21.out.2.1.at 3 (v := .slice p.na p.ns.length p.nc) rfl
      have x4 := H21.out.2.1.at 4 (v := .slice p.va p.vs.length p.vc) rfl
      have x5 := H21.out.2.1.at 5 (v := .slice p.pa p.ps.length p.pc) rfl
      go_wp2_with fail
      refine (refCost p bl AB cB _ (HOK.out.next H21.out.1) HPO.out (by rw [← HWL.out]; exact (plan_iff.1 HSO.out.1).1) H21.out.2.2.1).mono ?_
      rintro e w22 ⟨rfl, hb⟩
      have H23 := Lib.hid (And.intro ((newer_trans H21.out.1 hb)) (And.intro ((H21.out.2.1.below hb H21.out.2.1.lt)) (And.intro (((H21.out.2.2.1.below hb).more hb.size)) (((H21.out.2.2.2.below hb).more hb.size)))))
      clear hb H21 x0 x1 x2 x3 x4 x5
      rw [← HQ.out, ← HSO.out.2.2.1]
      have x0 := H23.out.2.1.at 0 (v := vi p.years) rfl
      have x1 := H23.out.2.1.at 1 (v := vi p.slopes) rfl
      have x2 := H23.out.2.1.at 2 (v := .slice p.wa p.ws.length p.wc) rfl
      have x3 := H23.out.2.1.at 3 (v := .slice p.na p.ns.length p.nc) rfl
      have x4 := H23.out.2.1.at 4 (v := .slice p.va p.vs.length p.vc) rfl
      have x5 := H23.out.2.1.at 5 (v := .slice p.pa p.ps.length p.pc) rfl
      go_wp2_with fail
      refine (lawProject p w22 (HOK.out.next H23.out.1) HF.out).mono ?_
      rintro e w24 ⟨⟨p1, rfl, hj1, ho1, hpc1⟩, hb⟩
      have HJ1 := Lib.hid (And.intro hj1 hpc1)
      clear hj1 hpc1
      have H25 := Lib.hid (And.intro ((newer_trans H23.out.1 hb)) (And.intro ((H23.out.2.1.below hb H23.out.2.1.lt)) (And.intro (((H23.out.2.2.1.below hb).more hb.size)) (And.intro (((H23.out.2.2.2.below hb).more hb.size)) (ho1)))))
      clear hb ho1 H23 x0 x1 x2 x3 x4 x5
      go_wp2_with fail
      refine (list_copy HBL2.out H25.out.2.2.1).mono ?_
      rintro e w26 ⟨⟨A1, c1, rfl, ho1⟩, hb⟩
      have H27 := Lib.hid (And.intro ((newer_trans H25.out.1 hb)) (And.intro ((H25.out.2.1.below hb H25.out.2.1.lt)) (And.intro (((H25.out.2.2.1.below hb).more hb.size)) (And.intro (((H25.out.2.2.2.1.below hb).more hb.size)) (And.intro ((H25.out.2.2.2.2.next hb)) (ho1))))))
      clear hb ho1 H25
      go_wp2_with fail
      refine (suffices_of (HJ1.out.1.trans HQ.out.symm) H27.out.2.2.2.2.1 (thin_few (by rw [HJ1.out.1, ← HQ.out]; exact HTP.out)) HBL2.out HJ1.out.2 H27.out.2.2.2.2.2).mono ?_
      rintro e w28 ⟨rfl, hb⟩
      have H29 := Lib.hid (And.intro ((newer_trans H27.out.1 hb)) (And.intro ((H27.out.2.1.below hb H27.out.2.1.lt)) (And.intro (((H27.out.2.2.1.below hb).more hb.size)) (((H27.out.2.2.2.1.below hb).more hb.size)))))
      clear hb HJ1 H27
      rw [HSO.out.2.1]
      have x0 := H29.out.2.1.at 0 (v := vi p.years) rfl
      have x1 := H29.out.2.1.at 1 (v := vi p.slopes) rfl
      have x2 := H29.out.2.1.at 2 (v := .slice p.wa p.ws.length p.wc) rfl
      have x3 := H29.out.2.1.at 3 (v := .slice p.na p.ns.length p.nc) rfl
      have x4 := H29.out.2.1.at 4 (v := .slice p.va p.vs.length p.vc) rfl
      have x5 := H29.out.2.1.at 5 (v := .slice p.pa p.ps.length p.pc) rfl
      go_wp2_with fail
      refine (lawProject p w28 (HOK.out.next H29.out.1) HF.out).mono ?_
      rintro e w30 ⟨⟨p1, rfl, hj1, ho1, hpc1⟩, hb⟩
      have HJ1 := Lib.hid (And.intro hj1 hpc1)
      clear hj1 hpc1
      have H31 := Lib.hid (And.intro ((newer_trans H29.out.1 hb)) (And.intro ((H29.out.2.1.below hb H29.out.2.1.lt)) (And.intro (((H29.out.2.2.1.below hb).more hb.size)) (And.intro (((H29.out.2.2.2.below hb).more hb.size)) (ho1)))))
      clear hb ho1 H29 x0 x1 x2 x3 x4 x5
      go_wp2_with fail
      refine (list_copy HCL.out H31.out.2.2.2.1).mono ?_
      rintro e w32 ⟨⟨A1, c1, rfl, ho1⟩, hb⟩
      have H33 := Lib.hid (And.intro ((newer_trans H31.out.1 hb)) (And.intro ((H31.out.2.1.below hb H31.out.2.1.lt)) (And.intro (((H31.out.2.2.1.below hb).more hb.size)) (And.intro (((H31.out.2.2.2.1.below hb).more hb.size)) (And.intro ((H31.out.2.2.2.2.next hb)) (ho1))))))
      clear hb ho1 H31
      go_wp2_with fail
      refine (suffices_of (HJ1.out.1.trans HQ.out.symm) H33.out.2.2.2.2.1 (thin_few (by rw [HJ1.out.1, ← HQ.out]; exact HTP.out)) HCL.out HJ1.out.2 H33.out.2.2.2.2.2).mono ?_
      rintro e w34 ⟨rfl, hb⟩
      have H35 := Lib.hid (And.intro ((newer_trans H33.out.1 hb)) (And.intro ((H33.out.2.1.below hb H33.out.2.1.lt)) (And.intro (((H33.out.2.2.1.below hb).more hb.size)) (((H33.out.2.2.2.1.below hb).more hb.size)))))
      clear hb HJ1 H33
      rw [← HSB.out]
      cases sb with
      | false =>
        obtain ⟨bb, hbb⟩ : ∃ bb, bb = boundB q sh bo := ⟨_, rfl⟩
        have HBD := Lib.hid hbb
        clear hbb
        have c85 : IntKind.i64.wrap bo = bo := IntWalk.i64_in _ (by omega)
        have x0 := H35.out.2.1.at 0 (v := vi p.years) rfl
        have x1 := H35.out.2.1.at 1 (v := vi p.slopes) rfl
        have x2 := H35.out.2.1.at 2 (v := .slice p.wa p.ws.length p.wc) rfl
        have x3 := H35.out.2.1.at 3 (v := .slice p.na p.ns.length p.nc) rfl
        have x4 := H35.out.2.1.at 4 (v := .slice p.va p.vs.length p.vc) rfl
        have x5 := H35.out.2.1.at 5 (v := .slice p.pa p.ps.length p.pc) rfl
        go_wp2_with fail
        refine (lawProject p w34 (HOK.out.next H35.out.1) HF.out).mono ?_
        rintro e w36 ⟨⟨p1, rfl, hj1, ho1, hpc1⟩, hb⟩
        have HJ1 := Lib.hid (And.intro hj1 hpc1)
        clear hj1 hpc1
        have H37 := Lib.hid (And.intro ((newer_trans H35.out.1 hb)) (And.intro ((H35.out.2.1.below hb H35.out.2.1.lt)) (And.intro (((H35.out.2.2.1.below hb).more hb.size)) (And.intro (((H35.out.2.2.2.below hb).more hb.size)) (ho1)))))
        clear hb ho1 H35 x0 x1 x2 x3 x4 x5
        go_wp2_with fail
        refine (list_copy HSL.out ((HRS.out.below H37.out.1).more H37.out.1.size)).mono ?_
        rintro e w38 ⟨⟨A1, c1, rfl, ho1⟩, hb⟩
        have H39 := Lib.hid (And.intro ((newer_trans H37.out.1 hb)) (And.intro ((H37.out.2.1.below hb H37.out.2.1.lt)) (And.intro (((H37.out.2.2.1.below hb).more hb.size)) (And.intro (((H37.out.2.2.2.1.below hb).more hb.size)) (And.intro ((H37.out.2.2.2.2.next hb)) (ho1))))))
        clear hb ho1 H37
        go_wp2_with fail
        refine (prove_of (HJ1.out.1.trans HQ.out.symm) H39.out.2.2.2.2.1 (thin_few (by rw [HJ1.out.1, ← HQ.out]; exact HTP.out)) H39.out.2.2.2.2.2 HSL.out).mono ?_
        rintro e w40 ⟨rfl, hb⟩
        have H41 := Lib.hid (And.intro ((newer_trans H39.out.1 hb)) (And.intro ((H39.out.2.1.below hb H39.out.2.1.lt)) (And.intro (((H39.out.2.2.1.below hb).more hb.size)) (((H39.out.2.2.2.1.below hb).more hb.size)))))
        clear hb HJ1 H39
        rw [← HBD.out]
        cases bb with
        | false =>
          go_wp2_with (go_at_call 17; refine (wakes_any _).mono ?_; rintro e w' ⟨rfl, hwk⟩; have HWK := Lib.hid (newer_trans H41.out.1 hwk); clear hwk)
          go_ret
          exact ⟨rfl, HWK.out⟩
        | true =>
          have hle : bo ≤ cn := HSO.out.2.2.2.2 sh bo HBD.out.symm
          go_wp2_with (go_at_call 17; refine (wakes_any _).mono ?_; rintro e w' ⟨rfl, hwk⟩; have HWK := Lib.hid (newer_trans H41.out.1 hwk); clear hwk)
          go_ret
          exact ⟨rfl, HWK.out⟩
      | true =>
        have x0 := H35.out.2.1.at 0 (v := vi p.years) rfl
        have x1 := H35.out.2.1.at 1 (v := vi p.slopes) rfl
        have x2 := H35.out.2.1.at 2 (v := .slice p.wa p.ws.length p.wc) rfl
        have x3 := H35.out.2.1.at 3 (v := .slice p.na p.ns.length p.nc) rfl
        have x4 := H35.out.2.1.at 4 (v := .slice p.va p.vs.length p.vc) rfl
        have x5 := H35.out.2.1.at 5 (v := .slice p.pa p.ps.length p.pc) rfl
        go_wp2_with fail
        refine (refCost p ch AC cC _ (HOK.out.next H35.out.1) HPO.out (by rw [← HWL.out, HCH.out]; exact chP_len) H35.out.2.2.2).mono ?_
        rintro e w42 ⟨rfl, hb⟩
        have H43 := Lib.hid (And.intro ((newer_trans H35.out.1 hb)) (And.intro ((H35.out.2.1.below hb H35.out.2.1.lt)) (And.intro (((H35.out.2.2.1.below hb).more hb.size)) (((H35.out.2.2.2.below hb).more hb.size)))))
        clear hb H35 x0 x1 x2 x3 x4 x5
        have hnc : ¬ (costN p.pj.works ch < cn) := by
          have h := HSO.out.2.2.2.1 ch HSB.out.symm
          rw [HQ.out] at h
          omega
        obtain ⟨bb, hbb⟩ : ∃ bb, bb = boundB q sh bo := ⟨_, rfl⟩
        have HBD := Lib.hid hbb
        clear hbb
        have c85 : IntKind.i64.wrap bo = bo := IntWalk.i64_in _ (by omega)
        have x0 := H43.out.2.1.at 0 (v := vi p.years) rfl
        have x1 := H43.out.2.1.at 1 (v := vi p.slopes) rfl
        have x2 := H43.out.2.1.at 2 (v := .slice p.wa p.ws.length p.wc) rfl
        have x3 := H43.out.2.1.at 3 (v := .slice p.na p.ns.length p.nc) rfl
        have x4 := H43.out.2.1.at 4 (v := .slice p.va p.vs.length p.vc) rfl
        have x5 := H43.out.2.1.at 5 (v := .slice p.pa p.ps.length p.pc) rfl
        go_wp2_with fail
        refine (lawProject p w42 (HOK.out.next H43.out.1) HF.out).mono ?_
        rintro e w44 ⟨⟨p1, rfl, hj1, ho1, hpc1⟩, hb⟩
        have HJ1 := Lib.hid (And.intro hj1 hpc1)
        clear hj1 hpc1
        have H45 := Lib.hid (And.intro ((newer_trans H43.out.1 hb)) (And.intro ((H43.out.2.1.below hb H43.out.2.1.lt)) (And.intro (((H43.out.2.2.1.below hb).more hb.size)) (And.intro (((H43.out.2.2.2.below hb).more hb.size)) (ho1)))))
        clear hb ho1 H43 x0 x1 x2 x3 x4 x5
        go_wp2_with fail
        refine (list_copy HSL.out ((HRS.out.below H45.out.1).more H45.out.1.size)).mono ?_
        rintro e w46 ⟨⟨A1, c1, rfl, ho1⟩, hb⟩
        have H47 := Lib.hid (And.intro ((newer_trans H45.out.1 hb)) (And.intro ((H45.out.2.1.below hb H45.out.2.1.lt)) (And.intro (((H45.out.2.2.1.below hb).more hb.size)) (And.intro (((H45.out.2.2.2.1.below hb).more hb.size)) (And.intro ((H45.out.2.2.2.2.next hb)) (ho1))))))
        clear hb ho1 H45
        go_wp2_with fail
        refine (prove_of (HJ1.out.1.trans HQ.out.symm) H47.out.2.2.2.2.1 (thin_few (by rw [HJ1.out.1, ← HQ.out]; exact HTP.out)) H47.out.2.2.2.2.2 HSL.out).mono ?_
        rintro e w48 ⟨rfl, hb⟩
        have H49 := Lib.hid (And.intro ((newer_trans H47.out.1 hb)) (And.intro ((H47.out.2.1.below hb H47.out.2.1.lt)) (And.intro (((H47.out.2.2.1.below hb).more hb.size)) (((H47.out.2.2.2.1.below hb).more hb.size)))))
        clear hb HJ1 H47
        rw [← HBD.out]
        cases bb with
        | false =>
          go_wp2_with (go_at_call 17; refine (wakes_any _).mono ?_; rintro e w' ⟨rfl, hwk⟩; have HWK := Lib.hid (newer_trans H49.out.1 hwk); clear hwk)
          go_ret
          exact ⟨rfl, HWK.out⟩
        | true =>
          have hle : bo ≤ cn := HSO.out.2.2.2.2 sh bo HBD.out.symm
          go_wp2_with (go_at_call 17; refine (wakes_any _).mono ?_; rintro e w' ⟨rfl, hwk⟩; have HWK := Lib.hid (newer_trans H49.out.1 hwk); clear hwk)
          go_ret
          exact ⟨rfl, HWK.out⟩
end Go.Proofs.Ytpnpnfjhjjdmgaa
