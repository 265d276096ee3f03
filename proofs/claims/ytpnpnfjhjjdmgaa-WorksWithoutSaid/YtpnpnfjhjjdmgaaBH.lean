/- WorksWithout, walked: it returns true, whatever the project and the words. -/
import Derived.Test.YtpnpnfjhjjdmgaaBG
namespace Go.Proofs.Ytpnpnfjhjjdmgaa
open Go.ChangeShapes Go.WideShapes Go.ChangeAt Go.RowKit Go.Deep

set_option maxRecDepth 100000 in
set_option maxHeartbeats 8000000 in
theorem worksWithout_walk (p : Pm) (bs : List Byt) (B : Option Addr) (bc : Nat) (w : World) (hbl : bs.length ≤ maxLen) (hok : PmOk p w) (hrb : Row byL 1 w w.heap.size B bs) :
    Calls Try.prog 12 #[pmV p, .slice B bs.length bc] w fun e w' => e = .returned (.bool true) ∧ newer w w' := by
  have hnw := newer_allocH w (.cells (pmC p) 27)
  have hbx := Whole.made w 27 (pmC p)
  have HOK := Lib.hid hok
  have HRD := Lib.hid (ready_any p _ (hok.next hnw))
  have HRB := Lib.hid hrb
  have HBL := Lib.hid hbl
  have H1 := Lib.hid (And.intro (hnw) (hbx))
  clear hnw hbx hok hrb hbl
  have x0 := H1.out.2.at 0 (v := vi p.years) rfl
  have x1 := H1.out.2.at 1 (v := vi p.slopes) rfl
  have x2 := H1.out.2.at 2 (v := .slice p.wa p.ws.length p.wc) rfl
  have x3 := H1.out.2.at 3 (v := .slice p.na p.ns.length p.nc) rfl
  have x4 := H1.out.2.at 4 (v := .slice p.va p.vs.length p.vc) rfl
  have x5 := H1.out.2.at 5 (v := .slice p.pa p.ps.length p.pc) rfl
  cases hrd : readyP p.pj with
  | false =>
    rw [hrd] at HRD
    clear hrd
    go_enter Try.func12, Try.ntmps12
    go_wp2_with fail
    refine (HRD.out).mono ?_
    rintro e w2 ⟨rfl, hb⟩
    have H3 := Lib.hid (And.intro ((newer_trans H1.out.1 hb)) ((H1.out.2.below hb H1.out.2.lt)))
    clear hb H1 x0 x1 x2 x3 x4 x5
    go_wp2_with (go_at_call 17; refine (wakes_any _).mono ?_; rintro e w' ⟨rfl, hwk⟩; have HWK := Lib.hid (newer_trans H3.out.1 hwk); clear hwk)
    go_ret
    exact ⟨rfl, HWK.out⟩
  | true =>
    rw [hrd] at HRD
    have HTP := Lib.hid (ready_parts hrd).1
    have HF := Lib.hid (thin_few HTP.out)
    have HFZ := Lib.hid (ready_parts hrd).2
    have HPO := Lib.hid (fault_ok HFZ.out)
    have HFO := Lib.hid (faultOk_iff.1 HFZ.out)
    clear hrd
    by_cases hl : 5 < p.vs.length
    · have hli : (5 : Int) < p.vs.length := by omega
      clear hl
      go_enter Try.func12, Try.ntmps12
      go_wp2_with fail
      refine (HRD.out).mono ?_
      rintro e w4 ⟨rfl, hb⟩
      have H5 := Lib.hid (And.intro ((newer_trans H1.out.1 hb)) ((H1.out.2.below hb H1.out.2.lt)))
      clear hb H1 x0 x1 x2 x3 x4 x5
      have x4 := H5.out.2.at 4 (v := .slice p.va p.vs.length p.vc) rfl
      go_wp2_with (go_at_call 17; refine (wakes_any _).mono ?_; rintro e w' ⟨rfl, hwk⟩; have HWK := Lib.hid (newer_trans H5.out.1 hwk); clear hwk)
      go_ret
      exact ⟨rfl, HWK.out⟩
    · have hli : ¬ ((5 : Int) < p.vs.length) := by omega
      have HV5 : Hid (p.pj.villages.length ≤ 5) := Lib.hid (by simp only [Pm.pj]; omega)
      clear hl
      obtain ⟨E, hE⟩ : ∃ E, E = bestE p.pj := ⟨_, rfl⟩
      have HEE := Lib.hid hE
      obtain ⟨nl, hnl⟩ : ∃ nl, nl = needP p.pj := ⟨_, rfl⟩
      have HNL := Lib.hid hnl
      obtain ⟨ch, hch⟩ : ∃ ch, ch = chP p.pj bs := ⟨_, rfl⟩
      have HCH := Lib.hid hch
      obtain ⟨sb, hsb⟩ : ∃ sb, sb = suffB p.pj ch := ⟨_, rfl⟩
      have HSB := Lib.hid hsb
      clear hE hnl hch hsb
      have HWL : Hid (p.pj.works.length = p.ws.length) := Lib.hid (by simp [Pm.pj])
      have HW8 := Lib.hid HPO.out.wn
      have HCL : Hid (ch.length = p.ws.length) := Lib.hid (by rw [HCH.out, chP_len, HWL.out])
      have HCM : Hid (ch.length ≤ 1000) := Lib.hid (by rw [HCL.out]; have := HW8.out; omega)
      have HNC := Lib.hid (fun (p1 : Pm) (V : World) (hj : p1.pj = p.pj) (hok : PmOk p1 V) (hpc : p1.ps.length ≤ p1.pc) => by
        have h := needed_any p1 V hok (thin_few (by rw [hj]; exact HTP.out)) hpc
        rw [hj, ← HNL.out, ← HEE.out] at h
        exact h)
      have HCC := Lib.hid (fun (V : World) (hV : newer w V) => chosen_any p bs B bc V (HOK.out.next hV) HPO.out HBL.out ((HRB.out.below hV).more hV.size))
      rw [← HCH.out] at HCC
      go_enter Try.func12, Try.ntmps12
      go_wp2_with fail
      refine (HRD.out).mono ?_
      rintro e w6 ⟨rfl, hb⟩
      have H7 := Lib.hid (And.intro ((newer_trans H1.out.1 hb)) ((H1.out.2.below hb H1.out.2.lt)))
      clear hb HRD H1 x0 x1 x2 x3 x4 x5
      have x0 := H7.out.2.at 0 (v := vi p.years) rfl
      have x1 := H7.out.2.at 1 (v := vi p.slopes) rfl
      have x2 := H7.out.2.at 2 (v := .slice p.wa p.ws.length p.wc) rfl
      have x3 := H7.out.2.at 3 (v := .slice p.na p.ns.length p.nc) rfl
      have x4 := H7.out.2.at 4 (v := .slice p.va p.vs.length p.vc) rfl
      have x5 := H7.out.2.at 5 (v := .slice p.pa p.ps.length p.pc) rfl
      go_wp2_with fail
      refine (lawProject p w6 (HOK.out.next H7.out.1) HF.out).mono ?_
      rintro e w8 ⟨⟨p1, rfl, hj1, ho1, hpc1⟩, hb⟩
      have HJ1 := Lib.hid (And.intro hj1 hpc1)
      clear hj1 hpc1
      have H9 := Lib.hid (And.intro ((newer_trans H7.out.1 hb)) (And.intro ((H7.out.2.below hb H7.out.2.lt)) (ho1)))
      clear hb ho1 H7 x0 x1 x2 x3 x4 x5
      go_wp2_with fail
      refine (HNC.out p1 _ HJ1.out.1 H9.out.2.2 HJ1.out.2).mono ?_
      rintro e w10 ⟨⟨A1, c1, rfl, ho1⟩, hb⟩
      have H11 := Lib.hid (And.intro ((newer_trans H9.out.1 hb)) (And.intro ((H9.out.2.1.below hb H9.out.2.1.lt)) (ho1)))
      clear hb HJ1 HNC ho1 H9
      by_cases hE : E = 0
      case neg =>
        obtain rfl : E = 9 := HEE.out.trans (none_suff (l := []) HFZ.out (by rw [← HEE.out]; exact hE)).1
        clear hE
        go_wp2_with (go_at_call 17; refine (wakes_any _).mono ?_; rintro e w' ⟨rfl, hwk⟩; have HWK := Lib.hid (newer_trans H11.out.1 hwk); clear hwk)
        go_ret
        exact ⟨rfl, HWK.out⟩
      subst hE
      have x0 := H11.out.2.1.at 0 (v := vi p.years) rfl
      have x1 := H11.out.2.1.at 1 (v := vi p.slopes) rfl
      have x2 := H11.out.2.1.at 2 (v := .slice p.wa p.ws.length p.wc) rfl
      have x3 := H11.out.2.1.at 3 (v := .slice p.na p.ns.length p.nc) rfl
      have x4 := H11.out.2.1.at 4 (v := .slice p.va p.vs.length p.vc) rfl
      have x5 := H11.out.2.1.at 5 (v := .slice p.pa p.ps.length p.pc) rfl
      go_wp2_with fail
      refine (HCC.out _ H11.out.1).mono ?_
      rintro e w12 ⟨⟨AC, cC, rfl, ho1⟩, hb⟩
      have H13 := Lib.hid (And.intro ((newer_trans H11.out.1 hb)) (And.intro ((H11.out.2.1.below hb H11.out.2.1.lt)) (And.intro (((H11.out.2.2.below hb).more hb.size)) (ho1))))
      clear hb HCC ho1 H11 x0 x1 x2 x3 x4 x5
      have x0 := H13.out.2.1.at 0 (v := vi p.years) rfl
      have x1 := H13.out.2.1.at 1 (v := vi p.slopes) rfl
      have x2 := H13.out.2.1.at 2 (v := .slice p.wa p.ws.length p.wc) rfl
      have x3 := H13.out.2.1.at 3 (v := .slice p.na p.ns.length p.nc) rfl
      have x4 := H13.out.2.1.at 4 (v := .slice p.va p.vs.length p.vc) rfl
      have x5 := H13.out.2.1.at 5 (v := .slice p.pa p.ps.length p.pc) rfl
      go_wp2_with fail
      refine (lawProject p w12 (HOK.out.next H13.out.1) HF.out).mono ?_
      rintro e w14 ⟨⟨p1, rfl, hj1, ho1, hpc1⟩, hb⟩
      have HJ1 := Lib.hid (And.intro hj1 hpc1)
      clear hj1 hpc1
      have H15 := Lib.hid (And.intro ((newer_trans H13.out.1 hb)) (And.intro ((H13.out.2.1.below hb H13.out.2.1.lt)) (And.intro (((H13.out.2.2.1.below hb).more hb.size)) (And.intro (((H13.out.2.2.2.below hb).more hb.size)) (ho1)))))
      clear hb ho1 H13 x0 x1 x2 x3 x4 x5
      go_wp2_with fail
      refine (list_copy HCM.out H15.out.2.2.2.1).mono ?_
      rintro e w16 ⟨⟨A2, c2, rfl, ho1⟩, hb⟩
      have H17 := Lib.hid (And.intro ((newer_trans H15.out.1 hb)) (And.intro ((H15.out.2.1.below hb H15.out.2.1.lt)) (And.intro (((H15.out.2.2.1.below hb).more hb.size)) (And.intro (((H15.out.2.2.2.1.below hb).more hb.size)) (And.intro ((H15.out.2.2.2.2.next hb)) (ho1))))))
      clear hb ho1 H15
      go_wp2_with fail
      refine (suffices_of HJ1.out.1 H17.out.2.2.2.2.1 (thin_few (by rw [HJ1.out.1]; exact HTP.out)) HCM.out HJ1.out.2 H17.out.2.2.2.2.2).mono ?_
      rintro e w18 ⟨rfl, hb⟩
      have H19 := Lib.hid (And.intro ((newer_trans H17.out.1 hb)) (And.intro ((H17.out.2.1.below hb H17.out.2.1.lt)) (And.intro (((H17.out.2.2.1.below hb).more hb.size)) (((H17.out.2.2.2.1.below hb).more hb.size)))))
      clear hb HJ1 H17
      rw [← HSB.out]
      have hnl2 : nl = numK (needF p.pj) p.ws.length := by rw [HNL.out]; unfold needP; rw [if_pos HEE.out.symm, HWL.out]
      obtain ⟨fq, hfq⟩ : ∃ fq, fq = needF p.pj := ⟨_, rfl⟩
      rw [← hfq] at hnl2
      have HFQ := Lib.hid hfq
      have HN2 := Lib.hid hnl2
      have HNK : Hid (∀ k, (numK fq k).length ≤ k) := Lib.hid (numK_len fq)
      have HLN : Hid (nl.length ≤ 8) := Lib.hid (by rw [hnl2]; have := HNK.out p.ws.length; have := HW8.out; omega)
      clear hfq hnl2
      have HBW : Hid (∀ i, bestE (withoutQ p.pj i) = if fq i = true then 9 else 0) := Lib.hid (fun i => by rw [HFQ.out]; exact bestE_without HFO.out HV5.out)
      have HBT : Hid (∀ i, fq i = true → sb = true → ∀ y, ch[i]? = some y → ¬ (y < 0)) := Lib.hid (fun i hi hs y hy => need_built HFO.out HV5.out (HSB.out.symm.trans hs) (by rw [← HFQ.out]; exact hi) hy)
      go_wp2_with fail
      go_loopw [9, 10] (fun s9 s10 wr => ∃ k : Nat, k ≤ p.ws.length ∧ s10 = .int .i64 k ∧ s9 = .int .i64 (numK fq k).length ∧ newer w18 wr) (fun _ s10 _ => p.ws.length - (intOf s10).toNat)
      case atStart => exact ⟨0, Nat.zero_le _, rfl, rfl, Below.refl _ _⟩
      case round =>
        obtain ⟨k, hk, rfl, rfl, hbw⟩ := hrel
        obtain ⟨wo, hwo⟩ : ∃ wo : World, wo = wr := ⟨_, rfl⟩
        rw [← hwo] at hbw ⊢
        clear hwo wr
        have H20 := Lib.hid (And.intro (hbw) (And.intro (newer_trans H19.out.1 hbw) (And.intro (H19.out.2.1.below hbw H19.out.2.1.lt) (And.intro ((H19.out.2.2.1.below hbw).more hbw.size) ((H19.out.2.2.2.below hbw).more hbw.size)))))
        clear hbw
        have x0 := H20.out.2.2.1.at 0 (v := vi p.years) rfl
        have x1 := H20.out.2.2.1.at 1 (v := vi p.slopes) rfl
        have x2 := H20.out.2.2.1.at 2 (v := .slice p.wa p.ws.length p.wc) rfl
        have x3 := H20.out.2.2.1.at 3 (v := .slice p.na p.ns.length p.nc) rfl
        have x4 := H20.out.2.2.1.at 4 (v := .slice p.va p.vs.length p.vc) rfl
        have x5 := H20.out.2.2.1.at 5 (v := .slice p.pa p.ps.length p.pc) rfl
        have hwn8 := HW8.out
        have hnk := HNK.out k
        have hln := HLN.out
        by_cases hlt : k < p.ws.length
        · have hkn : (k : Int) < p.ws.length := by omega
          obtain ⟨nk, hnk2⟩ : ∃ nk, nk = (numK fq k).length := ⟨_, rfl⟩
          have HNN := Lib.hid hnk2
          rw [← hnk2] at hnk ⊢
          clear hnk2
          obtain ⟨y, hy⟩ := get_of_lt (l := ch) (k := k) (by rw [HCL.out]; exact hlt)
          have HY := Lib.hid hy
          clear hy
          cases hfk : fq k with
          | false =>
            have HFK := Lib.hid hfk
            clear hfk
            by_cases hkl : nk < nl.length
            · obtain ⟨z, hz⟩ := get_of_lt hkl
              have hkl2 : (nk : Int) < nl.length := by omega
              have hzn : (z == (k : Int)) = false := by
                rw [beq_eq_false_iff_ne]
                refine numK_not hlt HFK.out ?_
                rw [← HNN.out, ← HN2.out]
                exact hz
              obtain ⟨b2, o2, e2, _, cz⟩ := row1 H20.out.2.2.2.1 hz
              subst e2
              clear hz hkl
              go_wp2_with fail
              refine (refWithout p k wo (HOK.out.next H20.out.2.1) HPO.out hlt).mono ?_
              rintro e w21 ⟨⟨p2, rfl, hj2, ho2⟩, hb⟩
              have HJ2 := Lib.hid hj2
              clear hj2
              have H22 := Lib.hid (And.intro ((newer_trans H20.out.1 hb)) (And.intro ((newer_trans H20.out.2.1 hb)) (And.intro ((H20.out.2.2.1.below hb H20.out.2.2.1.lt)) (And.intro (((H20.out.2.2.2.1.below hb).more hb.size)) (And.intro (((H20.out.2.2.2.2.below hb).more hb.size)) (ho2))))))
              clear hb ho2 H20 x0 x1 x2 x3 x4 x5
              go_wp2_with fail
              refine (lawProject p2 w21 H22.out.2.2.2.2.2 (few_of (without_pjOk HFO.out HJ2.out))).mono ?_
              rintro e w23 ⟨⟨p3, rfl, hj3, ho3, hpc3⟩, hb⟩
              have HJ3 := Lib.hid (And.intro (hj3.trans HJ2.out) hpc3)
              clear hj3 hpc3
              have H24 := Lib.hid (And.intro ((newer_trans H22.out.1 hb)) (And.intro ((newer_trans H22.out.2.1 hb)) (And.intro ((H22.out.2.2.1.below hb H22.out.2.2.1.lt)) (And.intro (((H22.out.2.2.2.1.below hb).more hb.size)) (And.intro (((H22.out.2.2.2.2.1.below hb).more hb.size)) (ho3))))))
              clear hb ho3 HJ2 H22
              have HB3 := Lib.hid (fun (V : World) (hok : PmOk p3 V) => best_list HJ3.out.1 hok (few_of (without_pjOk HFO.out HJ3.out.1)) HJ3.out.2)
              have HEK := Lib.hid (HBW.out k)
              rw [HFK.out, if_neg (by decide)] at HEK
              rw [HEK.out] at HB3
              go_wp2_with fail
              refine (HB3.out _ H24.out.2.2.2.2.2).mono ?_
              rintro e w25 ⟨⟨A4, c4, rfl, -⟩, hb⟩
              have H26 := Lib.hid (And.intro ((newer_trans H24.out.1 hb)) (And.intro ((newer_trans H24.out.2.1 hb)) (And.intro ((H24.out.2.2.1.below hb H24.out.2.2.1.lt)) (And.intro (((H24.out.2.2.2.1.below hb).more hb.size)) (((H24.out.2.2.2.2.1.below hb).more hb.size))))))
              clear hb HB3 HEK HJ3 H24
              go_wp2_with fail
              refine ⟨⟨k + 1, by omega, by go_num, ?_, H26.out.1⟩, by (simp only [intOf]; omega)⟩
              rw [numK_no HFK.out, ← HNN.out]
            · have hkl2 : ¬ ((nk : Int) < nl.length) := by omega
              clear hkl
              go_wp2_with fail
              refine (refWithout p k wo (HOK.out.next H20.out.2.1) HPO.out hlt).mono ?_
              rintro e w27 ⟨⟨p2, rfl, hj2, ho2⟩, hb⟩
              have HJ2 := Lib.hid hj2
              clear hj2
              have H28 := Lib.hid (And.intro ((newer_trans H20.out.1 hb)) (And.intro ((newer_trans H20.out.2.1 hb)) (And.intro ((H20.out.2.2.1.below hb H20.out.2.2.1.lt)) (And.intro (((H20.out.2.2.2.1.below hb).more hb.size)) (And.intro (((H20.out.2.2.2.2.below hb).more hb.size)) (ho2))))))
              clear hb ho2 H20 x0 x1 x2 x3 x4 x5
              go_wp2_with fail
              refine (lawProject p2 w27 H28.out.2.2.2.2.2 (few_of (without_pjOk HFO.out HJ2.out))).mono ?_
              rintro e w29 ⟨⟨p3, rfl, hj3, ho3, hpc3⟩, hb⟩
              have HJ3 := Lib.hid (And.intro (hj3.trans HJ2.out) hpc3)
              clear hj3 hpc3
              have H30 := Lib.hid (And.intro ((newer_trans H28.out.1 hb)) (And.intro ((newer_trans H28.out.2.1 hb)) (And.intro ((H28.out.2.2.1.below hb H28.out.2.2.1.lt)) (And.intro (((H28.out.2.2.2.1.below hb).more hb.size)) (And.intro (((H28.out.2.2.2.2.1.below hb).more hb.size)) (ho3))))))
              clear hb ho3 HJ2 H28
              have HB3 := Lib.hid (fun (V : World) (hok : PmOk p3 V) => best_list HJ3.out.1 hok (few_of (without_pjOk HFO.out HJ3.out.1)) HJ3.out.2)
              have HEK := Lib.hid (HBW.out k)
              rw [HFK.out, if_neg (by decide)] at HEK
              rw [HEK.out] at HB3
              go_wp2_with fail
              refine (HB3.out _ H30.out.2.2.2.2.2).mono ?_
              rintro e w31 ⟨⟨A4, c4, rfl, -⟩, hb⟩
              have H32 := Lib.hid (And.intro ((newer_trans H30.out.1 hb)) (And.intro ((newer_trans H30.out.2.1 hb)) (And.intro ((H30.out.2.2.1.below hb H30.out.2.2.1.lt)) (And.intro (((H30.out.2.2.2.1.below hb).more hb.size)) (((H30.out.2.2.2.2.1.below hb).more hb.size))))))
              clear hb HB3 HEK HJ3 H30
              go_wp2_with fail
              refine ⟨⟨k + 1, by omega, by go_num, ?_, H32.out.1⟩, by (simp only [intOf]; omega)⟩
              rw [numK_no HFK.out, ← HNN.out]
          | true =>
            have HFK := Lib.hid hfk
            clear hfk
            have hz : nl[nk]? = some (k : Int) := by rw [HN2.out, HNN.out]; exact numK_here hlt HFK.out
            have hkl := (List.getElem?_eq_some_iff.1 hz).1
            have hkl2 : (nk : Int) < nl.length := by omega
            obtain ⟨b2, o2, e2, _, cz⟩ := row1 H20.out.2.2.2.1 hz
            subst e2
            clear hz hkl
            go_wp2_with fail
            refine (refWithout p k wo (HOK.out.next H20.out.2.1) HPO.out hlt).mono ?_
            rintro e w33 ⟨⟨p2, rfl, hj2, ho2⟩, hb⟩
            have HJ2 := Lib.hid hj2
            clear hj2
            have H34 := Lib.hid (And.intro ((newer_trans H20.out.1 hb)) (And.intro ((newer_trans H20.out.2.1 hb)) (And.intro ((H20.out.2.2.1.below hb H20.out.2.2.1.lt)) (And.intro (((H20.out.2.2.2.1.below hb).more hb.size)) (And.intro (((H20.out.2.2.2.2.below hb).more hb.size)) (ho2))))))
            clear hb ho2 H20 x0 x1 x2 x3 x4 x5
            go_wp2_with fail
            refine (lawProject p2 w33 H34.out.2.2.2.2.2 (few_of (without_pjOk HFO.out HJ2.out))).mono ?_
            rintro e w35 ⟨⟨p3, rfl, hj3, ho3, hpc3⟩, hb⟩
            have HJ3 := Lib.hid (And.intro (hj3.trans HJ2.out) hpc3)
            clear hj3 hpc3
            have H36 := Lib.hid (And.intro ((newer_trans H34.out.1 hb)) (And.intro ((newer_trans H34.out.2.1 hb)) (And.intro ((H34.out.2.2.1.below hb H34.out.2.2.1.lt)) (And.intro (((H34.out.2.2.2.1.below hb).more hb.size)) (And.intro (((H34.out.2.2.2.2.1.below hb).more hb.size)) (ho3))))))
            clear hb ho3 HJ2 H34
            have HB3 := Lib.hid (fun (V : World) (hok : PmOk p3 V) => best_list HJ3.out.1 hok (few_of (without_pjOk HFO.out HJ3.out.1)) HJ3.out.2)
            have HEK := Lib.hid (HBW.out k)
            rw [HFK.out, if_pos rfl] at HEK
            rw [HEK.out] at HB3
            go_wp2_with fail
            refine (HB3.out _ H36.out.2.2.2.2.2).mono ?_
            rintro e w37 ⟨⟨A4, c4, rfl, -⟩, hb⟩
            have H38 := Lib.hid (And.intro ((newer_trans H36.out.1 hb)) (And.intro ((newer_trans H36.out.2.1 hb)) (And.intro ((H36.out.2.2.1.below hb H36.out.2.2.1.lt)) (And.intro (((H36.out.2.2.2.1.below hb).more hb.size)) (((H36.out.2.2.2.2.1.below hb).more hb.size))))))
            clear hb HB3 HEK HJ3 H36
            obtain ⟨b2, o2, e2, _, cy⟩ := row1 H38.out.2.2.2.2 HY.out
            subst e2
            have hkc : (k : Int) < ch.length := by rw [HCL.out]; exact hkn
            cases sb with
            | false =>
              go_wp2_with fail
              refine ⟨⟨k + 1, by omega, by go_num, ?_, H38.out.1⟩, by (simp only [intOf]; omega)⟩
              rw [numK_yes HFK.out, List.length_append, ← HNN.out]
              go_num
            | true =>
              have hyn := HBT.out k HFK.out rfl y HY.out
              go_wp2_with fail
              refine ⟨⟨k + 1, by omega, by go_num, ?_, H38.out.1⟩, by (simp only [intOf]; omega)⟩
              rw [numK_yes HFK.out, List.length_append, ← HNN.out]
              go_num
        · obtain rfl : k = p.ws.length := by omega
          have hkn : ¬ ((p.ws.length : Int) < p.ws.length) := by omega
          rw [← HN2.out]
          go_wp2_with (go_at_call 17; refine (wakes_any _).mono ?_; rintro e w' ⟨rfl, hwk⟩; have HWK := Lib.hid (newer_trans H20.out.2.1 hwk); clear hwk)
          go_ret
          exact ⟨rfl, HWK.out⟩
end Go.Proofs.Ytpnpnfjhjjdmgaa
