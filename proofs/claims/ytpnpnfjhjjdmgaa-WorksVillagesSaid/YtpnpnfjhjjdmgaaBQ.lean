/- WorksVillages, walked: it returns true, whatever the project and the bits. -/
import Derived.Test.YtpnpnfjhjjdmgaaBP
namespace Go.Proofs.Ytpnpnfjhjjdmgaa
open Go.ChangeShapes Go.WideShapes Go.ChangeAt Go.RowKit Go.Deep

def bitB (b : Int) (k : Nat) : Bool := decide (b / 2 ^ k % 2 = 1)
set_option maxRecDepth 100000 in
set_option maxHeartbeats 8000000 in
theorem worksVillages_walk (p : Pm) (bits : Int) (w : World) (hb0 : 0 ≤ bits) (hb1 : bits ≤ 255) (hok : PmOk p w) :
    Calls Try.prog 14 #[pmV p, .int .u8 bits] w fun e w' => e = .returned (.bool true) ∧ newer w w' := by
  have hnw := newer_allocH w (.cells (pmC p) 27)
  have hbx := Whole.made w 27 (pmC p)
  have HOK := Lib.hid hok
  have HRD := Lib.hid (ready_any p _ (hok.next hnw))
  have HBI := Lib.hid (And.intro hb0 hb1)
  have H1 := Lib.hid (And.intro (hnw) (hbx))
  clear hnw hbx hok hb0 hb1
  have x0 := H1.out.2.at 0 (v := vi p.years) rfl
  have x1 := H1.out.2.at 1 (v := vi p.slopes) rfl
  have x2 := H1.out.2.at 2 (v := .slice p.wa p.ws.length p.wc) rfl
  have x3 := H1.out.2.at 3 (v := .slice p.na p.ns.length p.nc) rfl
  have x4 := H1.out.2.at 4 (v := .slice p.va p.vs.length p.vc) rfl
  have x5 := H1.out.2.at 5 (v := .slice p.pa p.ps.length p.pc) rfl
  cases hrd : readyP p.pj with
  | false =>
    rw [hrd] at HRD
    clear hrd
    go_enter Try.func14, Try.ntmps14
    go_wp2_with fail
    refine (HRD.out).mono ?_
    rintro e w2 ⟨rfl, hb⟩
    have H3 := Lib.hid (And.intro ((newer_trans H1.out.1 hb)) ((H1.out.2.below hb H1.out.2.lt)))
    clear hb H1 x0 x1 x2 x3 x4 x5
    go_wp2_with (go_at_call 17; refine (wakes_any _).mono ?_; rintro e w' ⟨rfl, hwk⟩; have HWK := Lib.hid (newer_trans H3.out.1 hwk); clear hwk)
    go_ret
    exact ⟨rfl, HWK.out⟩
  | true =>
    rw [hrd] at HRD
    have HTP := Lib.hid (ready_parts hrd).1
    have HF := Lib.hid (thin_few HTP.out)
    have HFZ := Lib.hid (ready_parts hrd).2
    have HPO := Lib.hid (fault_ok HFZ.out)
    have HFO := Lib.hid (faultOk_iff.1 HFZ.out)
    clear hrd
    have HV6 : Hid (p.vs.length ≤ 6) := Lib.hid HFO.out.vn
    obtain ⟨q, hq⟩ : ∃ q, q = p.pj := ⟨_, rfl⟩
    have HQ := Lib.hid hq
    obtain ⟨E, hE⟩ : ∃ E, E = courtE q := ⟨_, rfl⟩
    have HEE := Lib.hid hE
    obtain ⟨L, hL⟩ : ∃ L, L = courtL q := ⟨_, rfl⟩
    have HLL := Lib.hid hL
    obtain ⟨F, hF⟩ : ∃ F, F = bestE q := ⟨_, rfl⟩
    have HFF := Lib.hid hF
    obtain ⟨cn, hcn⟩ : ∃ cn, cn = costOf (bestR q) := ⟨_, rfl⟩
    have HCN := Lib.hid hcn
    clear hq hE hL hF hcn
    rw [← HQ.out] at HTP HFZ HFO
    have HVS : Hid (q.villages = p.vs) := Lib.hid (by rw [HQ.out]; rfl)
    have HCO := Lib.hid (fun (p1 : Pm) (V : World) (hj : p1.pj = p.pj) (hok : PmOk p1 V) (hpc : p1.ps.length ≤ p1.pc) => by
      have h := court_any p1 V hok (thin_few (by rw [hj, ← HQ.out]; exact HTP.out)) hpc
      rw [hj, ← HQ.out, ← HLL.out, ← HEE.out] at h
      exact h)
    have HBT := Lib.hid (fun (p1 : Pm) (V : World) (hj : p1.pj = p.pj) (hok : PmOk p1 V) (hpc : p1.ps.length ≤ p1.pc) => best_list (hj.trans HQ.out.symm) hok (thin_few (by rw [hj, ← HQ.out]; exact HTP.out)) hpc)
    rw [← HCN.out, ← HFF.out] at HBT
    go_enter Try.func14, Try.ntmps14
    go_wp2_with fail
    refine (HRD.out).mono ?_
    rintro e w4 ⟨rfl, hb⟩
    have H5 := Lib.hid (And.intro ((newer_trans H1.out.1 hb)) ((H1.out.2.below hb H1.out.2.lt)))
    clear hb HRD H1 x0 x1 x2 x3 x4 x5
    have x0 := H5.out.2.at 0 (v := vi p.years) rfl
    have x1 := H5.out.2.at 1 (v := vi p.slopes) rfl
    have x2 := H5.out.2.at 2 (v := .slice p.wa p.ws.length p.wc) rfl
    have x3 := H5.out.2.at 3 (v := .slice p.na p.ns.length p.nc) rfl
    have x4 := H5.out.2.at 4 (v := .slice p.va p.vs.length p.vc) rfl
    have x5 := H5.out.2.at 5 (v := .slice p.pa p.ps.length p.pc) rfl
    go_wp2_with fail
    refine (lawProject p w4 (HOK.out.next H5.out.1) HF.out).mono ?_
    rintro e w6 ⟨⟨p1, rfl, hj1, ho1, hpc1⟩, hb⟩
    have HJ1 := Lib.hid (And.intro hj1 hpc1)
    clear hj1 hpc1
    have H7 := Lib.hid (And.intro ((newer_trans H5.out.1 hb)) (And.intro ((H5.out.2.below hb H5.out.2.lt)) (ho1)))
    clear hb ho1 H5 x0 x1 x2 x3 x4 x5
    go_wp2_with fail
    refine (HCO.out p1 _ HJ1.out.1 H7.out.2.2 HJ1.out.2).mono ?_
    rintro e w8 ⟨⟨AL, cL, rfl, ho1⟩, hb⟩
    have H9 := Lib.hid (And.intro ((newer_trans H7.out.1 hb)) (And.intro ((H7.out.2.1.below hb H7.out.2.1.lt)) (ho1)))
    clear hb HJ1 HCO ho1 H7
    have x0 := H9.out.2.1.at 0 (v := vi p.years) rfl
    have x1 := H9.out.2.1.at 1 (v := vi p.slopes) rfl
    have x2 := H9.out.2.1.at 2 (v := .slice p.wa p.ws.length p.wc) rfl
    have x3 := H9.out.2.1.at 3 (v := .slice p.na p.ns.length p.nc) rfl
    have x4 := H9.out.2.1.at 4 (v := .slice p.va p.vs.length p.vc) rfl
    have x5 := H9.out.2.1.at 5 (v := .slice p.pa p.ps.length p.pc) rfl
    go_wp2_with fail
    refine (lawProject p w8 (HOK.out.next H9.out.1) HF.out).mono ?_
    rintro e w10 ⟨⟨p1, rfl, hj1, ho1, hpc1⟩, hb⟩
    have HJ1 := Lib.hid (And.intro hj1 hpc1)
    clear hj1 hpc1
    have H11 := Lib.hid (And.intro ((newer_trans H9.out.1 hb)) (And.intro ((H9.out.2.1.below hb H9.out.2.1.lt)) (And.intro (((H9.out.2.2.below hb).more hb.size)) (ho1))))
    clear hb ho1 H9 x0 x1 x2 x3 x4 x5
    go_wp2_with fail
    refine (HBT.out p1 _ HJ1.out.1 H11.out.2.2.2 HJ1.out.2).mono ?_
    rintro e w12 ⟨⟨AB, cB, rfl, -⟩, hb⟩
    have H13 := Lib.hid (And.intro ((newer_trans H11.out.1 hb)) (And.intro ((H11.out.2.1.below hb H11.out.2.1.lt)) (((H11.out.2.2.1.below hb).more hb.size))))
    clear hb HJ1 HBT H11
    obtain ⟨nb, hnb⟩ : ∃ nb, nb = notB p.vs := ⟨_, rfl⟩
    have HNB := Lib.hid hnb
    obtain ⟨bt, hbt⟩ : ∃ bt, bt = bitB bits := ⟨_, rfl⟩
    have HBT := Lib.hid hbt
    obtain ⟨gb, hgb⟩ : ∃ gb : Nat → Bool, gb = fun k => bt k && nb k := ⟨_, rfl⟩
    have HGB := Lib.hid hgb
    obtain ⟨ev, hev⟩ : ∃ ev : Nat → Bool, ev = fun _ => true := ⟨_, rfl⟩
    have HEV := Lib.hid hev
    clear hnb hbt hgb hev
    have HN1 : Hid (∀ k, (numK ev k).length ≤ k) := Lib.hid (numK_len ev)
    have HN2 : Hid (∀ k, (numK bt k).length ≤ k) := Lib.hid (numK_len bt)
    have HN3 : Hid (∀ k, (numK gb k).length ≤ k) := Lib.hid (numK_len gb)
    obtain ⟨i3, hi0, hz0, hz1, hz2⟩ := info_parts Try.info3w
    have HI3 := Lib.hid (And.intro hi0 (And.intro hz0 (And.intro hz1 hz2)))
    clear hi0 hz0 hz1 hz2
    go_wp2_with fail
    go_loopw [10, 11, 12, 13] (fun s10 s11 s12 s13 wr => ∃ k : Nat, k ≤ p.vs.length ∧ s13 = .int .i64 k ∧ s12 = .int .i64 (numK gb k).length ∧ newer w12 wr ∧ wr.ownsRow w12.heap.size 3 1 s10 (numK ev k).length ((numK ev k).flatMap intL) ∧ wr.ownsRow w12.heap.size 3 1 s11 (numK bt k).length ((numK bt k).flatMap intL) ∧ (∀ x, s10.ownBlock = some x → s11.ownBlock ≠ some x)) (fun _ _ _ s13 _ => p.vs.length - (intOf s13).toNat)
    case atStart => exact ⟨0, Nat.zero_le _, rfl, rfl, Below.refl _ _, ⟨rfl, .inl ⟨rfl, rfl⟩⟩, ⟨rfl, .inl ⟨rfl, rfl⟩⟩, fun x hx => by simp [Value.ownBlock] at hx⟩
    case round =>
      obtain ⟨k, hk, rfl, rfl, hbw, ho1, ho2, hap⟩ := hrel
      obtain ⟨wo, hwo⟩ : ∃ wo : World, wo = wr := ⟨_, rfl⟩
      rw [← hwo] at hbw ho1 ho2 ⊢
      clear hwo wr
      have H14 := Lib.hid (And.intro (hbw) (And.intro (ho1) (ho2)))
      have HAP := Lib.hid hap
      clear hbw ho1 ho2 hap
      have hv6 := HV6.out
      have hn1 := HN1.out k
      have hn2 := HN2.out k
      have hn3 := HN3.out k
      have x4 := (H13.out.2.1.below H14.out.1 H13.out.2.1.lt).at 4 (v := .slice p.va p.vs.length p.vc) rfl
      by_cases hlt : k < p.vs.length
      · have hkn : (k : Int) < p.vs.length := by omega
        obtain ⟨b, hb⟩ := get_of_lt hlt
        obtain ⟨b2, o2, e2, _, cb⟩ := rowB (HOK.out.next (newer_trans H13.out.1 H14.out.1)).vs hb
        have HB_ := Lib.hid hb
        have HE2 := Lib.hid e2
        clear hb e2 cb
        have HO := Lib.hid (own_below H14.out.2.1 (newer_allocH wo (.cells #[.int .i64 k] 3)))
        have HU := Lib.hid (own_below H14.out.2.2 (newer_allocH wo (.cells #[.int .i64 k] 3)))
        have HNW := Lib.hid (World.news_of_block (Whole.made wo 3 #[.int .i64 k]))
        have HNN := Lib.hid (newer_trans H14.out.1 (newer_allocH wo (.cells #[.int .i64 k] 3)))
        have hbs := H14.out.1.size
        have HUL := Lib.hid (own_lt H14.out.2.2)
        go_upto_region 11 with (at_builtin; go_loud ((refine wpList_append_lies _ rfl (.tmp 48) (.tmp 50) 25 rfl w12.heap.size 3 i3 (.int .i64 0) 1 8 Try.underlying25 HI3.out.1 HI3.out.2.1 HI3.out.2.2.1 HI3.out.2.2.2 rfl (by omega) _ (numK ev k).length _ rfl HO.out ⟨wo.heap.size, 0, none⟩ 1 1 [.int .i64 k] rfl rfl HNW.out (by simp [Value.oneCell']) (by omega) (by unfold maxLen; omega) (by omega) (by simp; omega) (wo.heap.size + 1) (by simp) ?_); intro g1 cp1 wa1 hown2 hgrow2 hat2 hlt2; have HG1 := Lib.hid (And.intro (HNN.out.grown hgrow2 HNN.out.size (own_ge HO.out)) (And.intro hown2 (And.intro (HU.out.kept hgrow2 (by rcases Option.eq_none_or_eq_some (Value.ownBlock u11) with e | ⟨z, e⟩; exact .inl e; exact .inr (by rw [e]; intro e2; exact HAP.out z e2.symm e))) hat2))); clear hown2 hgrow2 hat2 hlt2 hbs))
        have HAQ : Hid (∀ x, (Value.slice (some ⟨g1, 0, none⟩) ((numK ev k).length + 1) cp1).ownBlock = some x → u11.ownBlock ≠ some x) := Lib.hid (fun x hx e => by
          have hx2 : g1 = x := by simpa [Value.ownBlock] using hx
          rcases HG1.out.2.2.2 with h | h
          · exact HAP.out g1 h (by rw [hx2]; exact e)
          · have h2 := HUL.out x e
            omega)
        have H15 := Lib.hid (And.intro (HG1.out.1) (And.intro (HG1.out.2.1) (HG1.out.2.2.1)))
        clear x4 HO HU HUL HNW HNN HAP HG1
        have x4 := (H13.out.2.1.below H15.out.1 H13.out.2.1.lt).at 4 (v := .slice p.va p.vs.length p.vc) rfl
        have hbi := HBI.out
        have hdv : 0 ≤ bits / 2 ^ k := Int.ediv_nonneg hbi.1 (by have := Int.pow_pos (n := 2) (m := k) (by omega); omega)
        have HY1 := Lib.hid (numK_yes (f := ev) (k := k) (by rw [HEV.out]))
        cases hbk : bt k with
        | false =>
          have eb : ((bits / 2 ^ k).tmod 2 == (1 : Int)) = false := by
            rw [Int.tmod_eq_emod_of_nonneg hdv, beq_eq_false_iff_ne]
            have h := hbk
            rw [HBT.out] at h
            exact of_decide_eq_false h
          have HN0 := Lib.hid (numK_no (f := bt) (k := k) hbk)
          have HG0 := Lib.hid (numK_no (f := gb) (k := k) (by rw [HGB.out]; simp [hbk]))
          clear hbk hdv hbi
          go_wp2_with fail
          refine ⟨⟨k + 1, by omega, by go_num, by rw [HG0.out], H15.out.1, ?_, ?_, HAQ.out⟩, by (simp only [intOf]; omega)⟩
          · rw [HY1.out, List.length_append, List.flatMap_append]
            exact H15.out.2.1
          · rw [HN0.out]
            exact H15.out.2.2
        | true =>
          have eb : ((bits / 2 ^ k).tmod 2 == (1 : Int)) = true := by
            rw [Int.tmod_eq_emod_of_nonneg hdv, beq_iff_eq]
            have h := hbk
            rw [HBT.out] at h
            exact of_decide_eq_true h
          have HN0 := Lib.hid (numK_yes (f := bt) (k := k) hbk)
          have HBK := Lib.hid hbk
          clear hbk hdv hbi
          have HO := Lib.hid (own_below H15.out.2.2 (newer_allocH wa1 (.cells #[.int .i64 k] 3)))
          have HU := Lib.hid (own_below H15.out.2.1 (newer_allocH wa1 (.cells #[.int .i64 k] 3)))
          have HUL := Lib.hid (own_lt H15.out.2.1)
          have HNW := Lib.hid (World.news_of_block (Whole.made wa1 3 #[.int .i64 k]))
          have HNN := Lib.hid (newer_trans H15.out.1 (newer_allocH wa1 (.cells #[.int .i64 k] 3)))
          have hbs := H15.out.1.size
          go_upto_region 13 with (at_builtin; go_loud ((refine wpList_append_lies _ rfl (.tmp 58) (.tmp 60) 25 rfl w12.heap.size 3 i3 (.int .i64 0) 1 8 Try.underlying25 HI3.out.1 HI3.out.2.1 HI3.out.2.2.1 HI3.out.2.2.2 rfl (by omega) _ (numK bt k).length _ rfl HO.out ⟨wa1.heap.size, 0, none⟩ 1 1 [.int .i64 k] rfl rfl HNW.out (by simp [Value.oneCell']) (by omega) (by unfold maxLen; omega) (by omega) (by simp; omega) (wa1.heap.size + 1) (by simp) ?_); intro g2 cp2 wa2 hown2 hgrow2 hat2 hlt2; have HG2 := Lib.hid (And.intro (HNN.out.grown hgrow2 HNN.out.size (own_ge HO.out)) (And.intro hown2 (And.intro (HU.out.kept hgrow2 (.inr (fun e2 => HAQ.out g1 rfl e2.symm))) hat2))); clear hown2 hgrow2 hat2 hlt2 hbs))
          have HAR : Hid (∀ x, (Value.slice (some ⟨g1, 0, none⟩) ((numK ev k).length + 1) cp1).ownBlock = some x → (Value.slice (some ⟨g2, 0, none⟩) ((numK bt k).length + 1) cp2).ownBlock ≠ some x) := Lib.hid (fun x hx e => by
            have hx2 : g1 = x := by simpa [Value.ownBlock] using hx
            have hx3 : g2 = x := by simpa [Value.ownBlock] using e
            rcases HG2.out.2.2.2 with h | h
            · exact HAQ.out g1 rfl (by rw [hx2, ← hx3]; exact h)
            · have h2 := HUL.out g1 rfl
              omega)
          have H16 := Lib.hid (And.intro (HG2.out.1) (And.intro (HG2.out.2.2.1) (HG2.out.2.1)))
          clear x4 HO HU HUL HNW HNN HAQ HG2
          have x4 := (H13.out.2.1.below H16.out.1 H13.out.2.1.lt).at 4 (v := .slice p.va p.vs.length p.vc) rfl
          obtain ⟨b3, o3, e3, _, cb⟩ := rowB (HOK.out.next (newer_trans H13.out.1 H16.out.1)).vs HB_.out
          rw [e3] at x4
          clear e3
          cases b with
          | true =>
            have hnbk : nb k = false := by rw [HNB.out]; unfold notB; rw [HB_.out]; rfl
            have HG0 := Lib.hid (numK_no (f := gb) (k := k) (by rw [HGB.out]; simp [hnbk, HBK.out]))
            clear hnbk
            go_wp2_with fail
            refine ⟨⟨k + 1, by omega, by go_num, ?_, H16.out.1, ?_, ?_, HAR.out⟩, by (simp only [intOf]; omega)⟩
            · rw [HG0.out]
            · rw [HY1.out, List.length_append, List.flatMap_append]
              exact H16.out.2.1
            · rw [HN0.out, List.length_append, List.flatMap_append]
              exact H16.out.2.2
          | false =>
            have hnbk : nb k = true := by rw [HNB.out]; unfold notB; rw [HB_.out]; rfl
            have HG0 := Lib.hid (numK_yes (f := gb) (k := k) (by rw [HGB.out]; simp [hnbk, HBK.out]))
            clear hnbk
            go_wp2_with fail
            refine ⟨⟨k + 1, by omega, by go_num, ?_, H16.out.1, ?_, ?_, HAR.out⟩, by (simp only [intOf]; omega)⟩
            · rw [HG0.out, List.length_append, List.length_singleton]
              go_num
            · rw [HY1.out, List.length_append, List.flatMap_append]
              exact H16.out.2.1
            · rw [HN0.out, List.length_append, List.flatMap_append]
              exact H16.out.2.2
      · obtain rfl : k = p.vs.length := by omega
        have hkn : ¬ ((p.vs.length : Int) < p.vs.length) := by omega
        clear hlt
        obtain ⟨AE, cE, rfl⟩ := own_form H14.out.2.1
        obtain ⟨AS, cS, rfl⟩ := own_form H14.out.2.2
        obtain ⟨le, hle⟩ : ∃ le, le = numK ev p.vs.length := ⟨_, rfl⟩
        obtain ⟨ls, hls⟩ : ∃ ls, ls = numK bt p.vs.length := ⟨_, rfl⟩
        obtain ⟨lg, hlg⟩ : ∃ lg, lg = numK gb p.vs.length := ⟨_, rfl⟩
        have hr1 := row_of_own (enc := intL) (size := 1) (by omega) (fun _ => rfl) H14.out.2.1
        have hr2 := row_of_own (enc := intL) (size := 1) (by omega) (fun _ => rfl) H14.out.2.2
        rw [← hle] at hr1 hn1 ⊢
        rw [← hls] at hr2 hn2 ⊢
        rw [← hlg] at hn3 ⊢
        have HLE := Lib.hid hle
        have HLS := Lib.hid hls
        have HLG := Lib.hid hlg
        have HNL := Lib.hid (And.intro hn1 (And.intro hn2 hn3))
        have H17 := Lib.hid (And.intro (H14.out.1) (And.intro (newer_trans H13.out.1 H14.out.1) (And.intro (H13.out.2.1.below H14.out.1 H13.out.2.1.lt) (And.intro ((H13.out.2.2.below H14.out.1).more H14.out.1.size) (And.intro (hr1) (hr2))))))
        clear hr1 hr2 hle hls hlg hn1 hn2 hn3 HAP hv6
        have HLM : Hid (∀ v ∈ le, 0 ≤ v ∧ v < p.vs.length) := Lib.hid (fun v hv => by rw [HLE.out] at hv; obtain ⟨j, h1, rfl, _⟩ := numK_mem hv; omega)
        have HSM : Hid (∀ v ∈ ls, 0 ≤ v ∧ v < p.vs.length) := Lib.hid (fun v hv => by rw [HLS.out] at hv; obtain ⟨j, h1, rfl, _⟩ := numK_mem hv; omega)
        obtain ⟨Ge, hGe⟩ : ∃ Ge, Ge = bestE (decQ q le) := ⟨_, rfl⟩
        obtain ⟨Gm, hGm⟩ : ∃ Gm, Gm = costOf (bestR (decQ q le)) := ⟨_, rfl⟩
        have HGe_ := Lib.hid hGe
        have HGm_ := Lib.hid hGm
        have HB3 := Lib.hid (fun (p3 : Pm) (V : World) (hj : p3.pj = decQ q le) (hok : PmOk p3 V) (hpc : p3.ps.length ≤ p3.pc) => best_list hj hok (few_of (pjOk_of (by rw [hj]; exact dec_fault HFO.out le))) hpc)
        rw [← hGe, ← hGm] at HB3
        clear hGe hGm
        have x0 := H17.out.2.2.1.at 0 (v := vi p.years) rfl
        have x1 := H17.out.2.2.1.at 1 (v := vi p.slopes) rfl
        have x2 := H17.out.2.2.1.at 2 (v := .slice p.wa p.ws.length p.wc) rfl
        have x3 := H17.out.2.2.1.at 3 (v := .slice p.na p.ns.length p.nc) rfl
        have x5 := H17.out.2.2.1.at 5 (v := .slice p.pa p.ps.length p.pc) rfl
        go_wp2_with fail
        refine (refDecided p le AE cE wo (HOK.out.next H17.out.2.1) (by have := HV6.out; omega) (by have := HNL.out.1; have := HV6.out; omega) HLM.out H17.out.2.2.2.2.1).mono ?_
        rintro e w18 ⟨⟨p2, rfl, hj2, ho2, -⟩, hb⟩
        rw [← HQ.out] at hj2
        have HJ2 := Lib.hid hj2
        clear hj2
        have H19 := Lib.hid (And.intro ((newer_trans H17.out.1 hb)) (And.intro ((newer_trans H17.out.2.1 hb)) (And.intro ((H17.out.2.2.1.below hb H17.out.2.2.1.lt)) (And.intro (((H17.out.2.2.2.1.below hb).more hb.size)) (And.intro (((H17.out.2.2.2.2.1.below hb).more hb.size)) (And.intro (((H17.out.2.2.2.2.2.below hb).more hb.size)) (ho2)))))))
        clear hb ho2 H17 x4 x0 x1 x2 x3 x5
        go_wp2_with fail
        refine (lawProject p2 w18 H19.out.2.2.2.2.2.2 (few_of (pjOk_of (by rw [HJ2.out]; exact dec_fault HFO.out le)))).mono ?_
        rintro e w20 ⟨⟨p3, rfl, hj3, ho3, hpc3⟩, hb⟩
        have HJ3 := Lib.hid (And.intro (hj3.trans HJ2.out) hpc3)
        clear hj3 hpc3
        have H21 := Lib.hid (And.intro ((newer_trans H19.out.1 hb)) (And.intro ((newer_trans H19.out.2.1 hb)) (And.intro ((H19.out.2.2.1.below hb H19.out.2.2.1.lt)) (And.intro (((H19.out.2.2.2.1.below hb).more hb.size)) (And.intro (((H19.out.2.2.2.2.1.below hb).more hb.size)) (And.intro (((H19.out.2.2.2.2.2.1.below hb).more hb.size)) (ho3)))))))
        clear hb ho3 HJ2 H19
        go_wp2_with fail
        refine (HB3.out p3 _ HJ3.out.1 H21.out.2.2.2.2.2.2 HJ3.out.2).mono ?_
        rintro e w22 ⟨⟨A8, c8, rfl, -⟩, hb⟩
        have H23 := Lib.hid (And.intro ((newer_trans H21.out.1 hb)) (And.intro ((newer_trans H21.out.2.1 hb)) (And.intro ((H21.out.2.2.1.below hb H21.out.2.2.1.lt)) (And.intro (((H21.out.2.2.2.1.below hb).more hb.size)) (And.intro (((H21.out.2.2.2.2.1.below hb).more hb.size)) (((H21.out.2.2.2.2.2.1.below hb).more hb.size)))))))
        clear hb HB3 HJ3 H21
        obtain ⟨Se, hSe⟩ : ∃ Se, Se = bestE (decQ q ls) := ⟨_, rfl⟩
        obtain ⟨Sm, hSm⟩ : ∃ Sm, Sm = costOf (bestR (decQ q ls)) := ⟨_, rfl⟩
        have HSe_ := Lib.hid hSe
        have HSm_ := Lib.hid hSm
        have HB3 := Lib.hid (fun (p3 : Pm) (V : World) (hj : p3.pj = decQ q ls) (hok : PmOk p3 V) (hpc : p3.ps.length ≤ p3.pc) => best_list hj hok (few_of (pjOk_of (by rw [hj]; exact dec_fault HFO.out ls))) hpc)
        rw [← hSe, ← hSm] at HB3
        clear hSe hSm
        have x0 := H23.out.2.2.1.at 0 (v := vi p.years) rfl
        have x1 := H23.out.2.2.1.at 1 (v := vi p.slopes) rfl
        have x2 := H23.out.2.2.1.at 2 (v := .slice p.wa p.ws.length p.wc) rfl
        have x3 := H23.out.2.2.1.at 3 (v := .slice p.na p.ns.length p.nc) rfl
        have x4 := H23.out.2.2.1.at 4 (v := .slice p.va p.vs.length p.vc) rfl
        have x5 := H23.out.2.2.1.at 5 (v := .slice p.pa p.ps.length p.pc) rfl
        go_wp2_with fail
        refine (refDecided p ls AS cS w22 (HOK.out.next H23.out.2.1) (by have := HV6.out; omega) (by have := HNL.out.2.1; have := HV6.out; omega) HSM.out H23.out.2.2.2.2.2).mono ?_
        rintro e w24 ⟨⟨p2, rfl, hj2, ho2, -⟩, hb⟩
        rw [← HQ.out] at hj2
        have HJ2 := Lib.hid hj2
        clear hj2
        have H25 := Lib.hid (And.intro ((newer_trans H23.out.1 hb)) (And.intro ((newer_trans H23.out.2.1 hb)) (And.intro ((H23.out.2.2.1.below hb H23.out.2.2.1.lt)) (And.intro (((H23.out.2.2.2.1.below hb).more hb.size)) (And.intro (((H23.out.2.2.2.2.1.below hb).more hb.size)) (And.intro (((H23.out.2.2.2.2.2.below hb).more hb.size)) (ho2)))))))
        clear hb ho2 H23 x0 x1 x2 x3 x4 x5
        go_wp2_with fail
        refine (lawProject p2 w24 H25.out.2.2.2.2.2.2 (few_of (pjOk_of (by rw [HJ2.out]; exact dec_fault HFO.out ls)))).mono ?_
        rintro e w26 ⟨⟨p3, rfl, hj3, ho3, hpc3⟩, hb⟩
        have HJ3 := Lib.hid (And.intro (hj3.trans HJ2.out) hpc3)
        clear hj3 hpc3
        have H27 := Lib.hid (And.intro ((newer_trans H25.out.1 hb)) (And.intro ((newer_trans H25.out.2.1 hb)) (And.intro ((H25.out.2.2.1.below hb H25.out.2.2.1.lt)) (And.intro (((H25.out.2.2.2.1.below hb).more hb.size)) (And.intro (((H25.out.2.2.2.2.1.below hb).more hb.size)) (And.intro (((H25.out.2.2.2.2.2.1.below hb).more hb.size)) (ho3)))))))
        clear hb ho3 HJ2 H25
        go_wp2_with fail
        refine (HB3.out p3 _ HJ3.out.1 H27.out.2.2.2.2.2.2 HJ3.out.2).mono ?_
        rintro e w28 ⟨⟨A9, c9, rfl, -⟩, hb⟩
        have H29 := Lib.hid (And.intro ((newer_trans H27.out.1 hb)) (And.intro ((newer_trans H27.out.2.1 hb)) (And.intro ((H27.out.2.2.1.below hb H27.out.2.2.1.lt)) (And.intro (((H27.out.2.2.2.1.below hb).more hb.size)) (And.intro (((H27.out.2.2.2.2.1.below hb).more hb.size)) (((H27.out.2.2.2.2.2.1.below hb).more hb.size)))))))
        clear hb HB3 HJ3 H27
        have HKE : Hid (Ge = bestE (decQ q (numK ev q.villages.length)) ∧ Se = bestE (decQ q (numK bt q.villages.length))) := Lib.hid (by rw [HVS.out, ← HLE.out, ← HLS.out]; exact ⟨HGe_.out, HSe_.out⟩)
        rcases courtE_of HFZ.out with hE | hE
        · rw [← HEE.out] at hE
          subst hE
          have HCT := Lib.hid (court_yes HFO.out HEE.out.symm)
          rw [← HLL.out] at HCT
          have HLI : Hid (∀ z ∈ L, ∃ k : Nat, z = k ∧ p.vs[k]? = some false) := Lib.hid (by rw [← HVS.out]; exact HCT.out.inn)
          have HLX : Hid (L.length ≤ 6) := Lib.hid (by have h1 := HCT.out.len; have h2 := HV6.out; rw [HVS.out] at h1; omega)
          obtain rfl : Ge = 0 := by rw [HKE.out.1, HEV.out]; exact every_some HFO.out HCT.out.best
          have HLC : Hid (F = 0 → ¬ (cn < Gm)) := Lib.hid (fun h0 => by
            have h := (every_best (l := le) HFO.out (HFF.out.symm.trans h0)).2
            rw [← HGm_.out, ← HCN.out] at h
            omega)
          have HFEW : Hid (Se = 0 → L.length ≤ lg.length) := Lib.hid (fun h0 => by
            have h := HCT.out.few bt (HKE.out.2.symm.trans h0)
            rw [HVS.out, show (fun k => bt k && notB p.vs k) = gb by rw [HGB.out, HNB.out], ← HLG.out] at h
            exact h)
          have hlx := HLX.out
          go_wp2_with fail
          go_loopw [20] (fun s20 wr => ∃ i : Nat, i ≤ L.length ∧ s20 = .int .i64 i ∧ newer w28 wr) (fun s20 _ => L.length - (intOf s20).toNat)
          case atStart => exact ⟨0, Nat.zero_le _, rfl, Below.refl _ _⟩
          case round =>
            obtain ⟨i, hi, rfl, hbw⟩ := hrel
            obtain ⟨wi, hwi⟩ : ∃ wi : World, wi = wr := ⟨_, rfl⟩
            rw [← hwi] at hbw ⊢
            clear hwi wr
            have H30 := Lib.hid (And.intro (hbw) (And.intro (newer_trans H29.out.2.1 hbw) (And.intro (H29.out.2.2.1.below hbw H29.out.2.2.1.lt) ((H29.out.2.2.2.1.below hbw).more hbw.size))))
            clear hbw
            by_cases hlt : i < L.length
            · have hin : (i : Int) < L.length := by omega
              obtain ⟨z, hz⟩ := get_of_lt hlt
              obtain ⟨vk, rfl, hvk⟩ := HLI.out z (List.mem_of_getElem? hz)
              have hvn : vk < p.vs.length := (List.getElem?_eq_some_iff.1 hvk).1
              have hvi : (vk : Int) < p.vs.length := by omega
              have HZ := Lib.hid hz
              have hv6 := HV6.out
              obtain ⟨b3, o3, e3, _, cv⟩ := rowB (HOK.out.next H30.out.2.1).vs hvk
              obtain ⟨b4, o4, e4, _, cz⟩ := row1 H30.out.2.2.2 hz
              have HA4 := Lib.hid e4
              subst e4
              have x4 := H30.out.2.2.1.at 4 (v := .slice p.va p.vs.length p.vc) rfl
              rw [e3] at x4
              clear e3 hz hvk
              have e120 : IntKind.i64.wrap ((p.vs.length : Int) - 1) = (p.vs.length : Int) - 1 := IntWalk.i64_in _ (by omega)
              have einb : inB (vk : Int) 0 ((p.vs.length : Int) - 1) = true := by simp only [inB, Bool.and_eq_true, decide_eq_true_eq]; omega
              by_cases hi0 : i = 0
              · go_upto_region 22 with fail
                refine wp_words (by kernel_rfl) (region_told_u 35 (by kernel_rfl) (by kernel_rfl) [false, false, false, false, false, false, false, false, false, false, false, false, false, false, false, false, false, false, false, false, false, false, false, false, true, true, true, true, true, true, true, true, true, true, false] (fun W => Below wi.heap.size wi W) newer [vIs (.slice (some ⟨b4, o4, none⟩) L.length cL), vIs (.int .i64 i), vIs (.pointer (some ⟨b4, o4 + i, none⟩)), vIs (.int .i64 vk), vIs (.pointer (some ⟨w.heap.size, 4, none⟩)), vIs (.slice (some ⟨b3, o3, none⟩) p.vs.length p.vc), vIs (.int .i64 p.vs.length), vIs (vi ((p.vs.length : Int) - 1)), vIs (.bool true), vIs (.bool false), vIs (.bool false), vIs (.pointer (some ⟨w.heap.size, 4, none⟩)), vIs (.slice (some ⟨b3, o3, none⟩) p.vs.length p.vc), vIs (.slice (some ⟨b4, o4, none⟩) L.length cL), vIs (.int .i64 i), vIs (.pointer (some ⟨b4, o4 + i, none⟩)), vIs (.int .i64 vk), vIs (.pointer (some ⟨b3, o3 + vk, none⟩)), vIs (.bool false), vIs (.bool false), vIs (.bool false), vIs (.int .i64 i), vIs (.bool false), vIs (.bool false), vIs (undef), vIs (undef), vIs (undef), vIs (undef), vIs (undef), vIs (undef), vIs (undef), vIs (undef), vIs (undef), vIs (undef), vIs (.bool false)] ⟨rfl, rfl, rfl, rfl, rfl, rfl, rfl, rfl, rfl, rfl, rfl, (fun v W h => by obtain rfl : v = _ := h; rfl), (fun v W h => by obtain rfl : v = _ := h; rfl), (fun v W h => by obtain rfl : v = _ := h; rfl), (fun v W h => by obtain rfl : v = _ := h; rfl), (fun v W h => by obtain rfl : v = _ := h; rfl), (fun v W h => by obtain rfl : v = _ := h; rfl), (fun v W h => by obtain rfl : v = _ := h; rfl), (fun v W h => by obtain rfl : v = _ := h; rfl), rfl, rfl, (fun v W h => by obtain rfl : v = _ := h; rfl), (fun v W h => by obtain rfl : v = _ := h; rfl), (fun v W h => by obtain rfl : v = _ := h; rfl), (fun v W h => by obtain rfl : v = _ := h; simp), (fun v W h => by obtain rfl : v = _ := h; simp), (fun v W h => by obtain rfl : v = _ := h; simp), (fun v W h => by obtain rfl : v = _ := h; simp), (fun v W h => by obtain rfl : v = _ := h; simp), (fun v W h => by obtain rfl : v = _ := h; simp), (fun v W h => by obtain rfl : v = _ := h; simp), (fun v W h => by obtain rfl : v = _ := h; simp), (fun v W h => by obtain rfl : v = _ := h; simp), (fun v W h => by obtain rfl : v = _ := h; simp), (fun v W h => by obtain rfl : v = _ := h; rfl), trivial⟩ ⟨(fun h => Bool.noConfusion (show false = true from h)), (fun h => Bool.noConfusion (show false = true from h)), (fun h => Bool.noConfusion (show false = true from h)), (fun h => Bool.noConfusion (show false = true from h)), (fun h => Bool.noConfusion (show false = true from h)), (fun h => Bool.noConfusion (show false = true from h)), (fun h => Bool.noConfusion (show false = true from h)), (fun h => Bool.noConfusion (show false = true from h)), (fun h => Bool.noConfusion (show false = true from h)), (fun h => Bool.noConfusion (show false = true from h)), (fun h => Bool.noConfusion (show false = true from h)), (fun h => Bool.noConfusion (show false = true from h)), (fun h => Bool.noConfusion (show false = true from h)), (fun h => Bool.noConfusion (show false = true from h)), (fun h => Bool.noConfusion (show false = true from h)), (fun h => Bool.noConfusion (show false = true from h)), (fun h => Bool.noConfusion (show false = true from h)), (fun h => Bool.noConfusion (show false = true from h)), (fun h => Bool.noConfusion (show false = true from h)), (fun h => Bool.noConfusion (show false = true from h)), (fun h => Bool.noConfusion (show false = true from h)), (fun h => Bool.noConfusion (show false = true from h)), (fun h => Bool.noConfusion (show false = true from h)), (fun h => Bool.noConfusion (show false = true from h)), (fun _ _ => rfl), (fun _ _ => rfl), (fun _ _ => rfl), (fun _ _ => rfl), (fun _ _ => rfl), (fun _ _ => rfl), (fun _ _ => rfl), (fun _ _ => rfl), (fun _ _ => rfl), (fun _ _ => rfl), (fun h => Bool.noConfusion (show false = true from h)), trivial⟩ (fun h k => newer_trans h k) (pickD_stable _ ⟨vIs_st, vIs_st, vIs_st, vIs_st, vIs_st, vIs_st, vIs_st, vIs_st, vIs_st, vIs_st, vIs_st, vIs_st, vIs_st, vIs_st, vIs_st, vIs_st, vIs_st, vIs_st, vIs_st, vIs_st, vIs_st, vIs_st, vIs_st, vIs_st, vIs_st, vIs_st, vIs_st, vIs_st, vIs_st, vIs_st, vIs_st, vIs_st, vIs_st, vIs_st, vIs_st, trivial⟩) (Below.refl _ wi).drew (Below.refl _ _) ?_ ?_)
                · refine ⟨.inr ?_, .inr ?_, .inr ?_, .inr ?_, .inr ?_, .inr ?_, .inr ?_, .inr ?_, .inr ?_, .inr ?_, .inr ?_, .inr ?_, .inr ?_, .inr ?_, .inr ?_, .inr ?_, .inr ?_, .inr ?_, .inr ?_, .inr ?_, .inr ?_, .inr ?_, .inr ?_, .inr ?_, .inl rfl, .inl rfl, .inl rfl, .inl rfl, .inl rfl, .inl rfl, .inl rfl, .inl rfl, .inl rfl, .inl rfl, .inr ?_, trivial⟩
                  · intro a W hG hR hO hp
                    have h5 := hO.slot 5 (by kernel_rfl)
                    refine wp_yields (v := .slice (some ⟨b4, o4, none⟩) L.length cL) ?_ ⟨_, rfl, rfl, Below.refl _ _, hG⟩
                    simp [slotOf] at h5
                    simp [execOp, go_sem, h5]
                  · intro a W hG hR hO hp
                    have h20 := hO.slot 20 (by kernel_rfl)
                    refine wp_yields (v := .int .i64 i) ?_ ⟨_, rfl, rfl, Below.refl _ _, hG⟩
                    simp [slotOf] at h20
                    simp [execOp, go_sem, h20]
                  · intro a W hG hR hO hp
                    have h113 : slotOf a 113 = .slice (some ⟨b4, o4, none⟩) L.length cL := hp.1
                    have h114 : slotOf a 114 = .int .i64 i := hp.2.1
                    refine wp_yields (v := .pointer (some ⟨b4, o4 + i, none⟩)) ?_ ⟨_, rfl, rfl, Below.refl _ _, hG⟩
                    simp [slotOf] at h113 h114
                    simp [execOp, go_sem, h113, h114, hin]
                  · intro a W hG hR hO hp
                    have h115 : slotOf a 115 = .pointer (some ⟨b4, o4 + i, none⟩) := hp.1
                    have c0 := keep_cell cz hG
                    refine wp_yields (v := .int .i64 vk) ?_ ⟨_, rfl, rfl, Below.refl _ _, hG⟩
                    simp [slotOf] at h115
                    simp [execOp, go_sem, h115, c0]
                  · intro a W hG hR hO hp
                    have h2 := hO.slot 2 (by kernel_rfl)
                    refine wp_yields (v := .pointer (some ⟨w.heap.size, 4, none⟩)) ?_ ⟨_, rfl, rfl, Below.refl _ _, hG⟩
                    simp [slotOf] at h2
                    simp [execOp, go_sem, h2]
                  · intro a W hG hR hO hp
                    have h117 : slotOf a 117 = .pointer (some ⟨w.heap.size, 4, none⟩) := hp.1
                    have c0 := keep_cell x4 hG
                    refine wp_yields (v := .slice (some ⟨b3, o3, none⟩) p.vs.length p.vc) ?_ ⟨_, rfl, rfl, Below.refl _ _, hG⟩
                    simp [slotOf] at h117
                    simp [execOp, go_sem, h117, c0]
                  · intro a W hG hR hO hp
                    have h118 : slotOf a 118 = .slice (some ⟨b3, o3, none⟩) p.vs.length p.vc := hp.1
                    refine wp_yields (v := .int .i64 p.vs.length) ?_ ⟨_, rfl, rfl, Below.refl _ _, hG⟩
                    simp [slotOf] at h118
                    simp [go_sem, h118]
                  · intro a W hG hR hO hp
                    have h119 : slotOf a 119 = .int .i64 p.vs.length := hp.1
                    refine wp_yields (v := vi ((p.vs.length : Int) - 1)) ?_ ⟨_, rfl, rfl, Below.refl _ _, hG⟩
                    simp [slotOf] at h119
                    simp [execOp, go_sem, h119, e120]
                  · intro a W hG hR hO hp
                    have h116 : slotOf a 116 = .int .i64 vk := hp.1
                    have h120 : slotOf a 120 = vi ((p.vs.length : Int) - 1) := hp.2.1
                    refine wp_enters (f := 24) (args := #[.int .i64 vk, .int .i64 0, vi ((p.vs.length : Int) - 1)]) ?_ ((in_any _ _ _ W).mono ?_)
                    · simp [slotOf] at h116 h120
                      simp [go_sem, h116, h120]
                    · rintro e w' ⟨rfl, rfl⟩
                      exact ⟨_, rfl, _, rfl, (by rw [einb]; rfl), newer_refl _, hG⟩
                  · intro a W hG hR hO hp
                    have h121 : slotOf a 121 = .bool true := hp.1
                    refine wp_yields (v := .bool false) ?_ ⟨_, rfl, rfl, Below.refl _ _, hG⟩
                    simp [slotOf] at h121
                    simp [execOp, go_sem, h121]
                  · intro a W hG hR hO hp
                    have h122 : slotOf a 122 = .bool false := hp.1
                    refine wp_yields (v := .bool false) ?_ ⟨_, rfl, rfl, Below.refl _ _, hG⟩
                    simp [slotOf] at h122
                    simp [execOp, go_sem, h122]
                  · intro a W hG hR hO hp
                    have h2 := hO.slot 2 (by kernel_rfl)
                    refine wp_yields (v := .pointer (some ⟨w.heap.size, 4, none⟩)) ?_ ⟨_, rfl, rfl, Below.refl _ _, hG⟩
                    simp [slotOf] at h2
                    simp [execOp, go_sem, h2]
                  · intro a W hG hR hO hp
                    have h124 : slotOf a 124 = .pointer (some ⟨w.heap.size, 4, none⟩) := hp.1
                    have c0 := keep_cell x4 hG
                    refine wp_yields (v := .slice (some ⟨b3, o3, none⟩) p.vs.length p.vc) ?_ ⟨_, rfl, rfl, Below.refl _ _, hG⟩
                    simp [slotOf] at h124
                    simp [execOp, go_sem, h124, c0]
                  · intro a W hG hR hO hp
                    have h5 := hO.slot 5 (by kernel_rfl)
                    refine wp_yields (v := .slice (some ⟨b4, o4, none⟩) L.length cL) ?_ ⟨_, rfl, rfl, Below.refl _ _, hG⟩
                    simp [slotOf] at h5
                    simp [execOp, go_sem, h5]
                  · intro a W hG hR hO hp
                    have h20 := hO.slot 20 (by kernel_rfl)
                    refine wp_yields (v := .int .i64 i) ?_ ⟨_, rfl, rfl, Below.refl _ _, hG⟩
                    simp [slotOf] at h20
                    simp [execOp, go_sem, h20]
                  · intro a W hG hR hO hp
                    have h126 : slotOf a 126 = .slice (some ⟨b4, o4, none⟩) L.length cL := hp.1
                    have h127 : slotOf a 127 = .int .i64 i := hp.2.1
                    refine wp_yields (v := .pointer (some ⟨b4, o4 + i, none⟩)) ?_ ⟨_, rfl, rfl, Below.refl _ _, hG⟩
                    simp [slotOf] at h126 h127
                    simp [execOp, go_sem, h126, h127, hin]
                  · intro a W hG hR hO hp
                    have h128 : slotOf a 128 = .pointer (some ⟨b4, o4 + i, none⟩) := hp.1
                    have c0 := keep_cell cz hG
                    refine wp_yields (v := .int .i64 vk) ?_ ⟨_, rfl, rfl, Below.refl _ _, hG⟩
                    simp [slotOf] at h128
                    simp [execOp, go_sem, h128, c0]
                  · intro a W hG hR hO hp
                    have h125 : slotOf a 125 = .slice (some ⟨b3, o3, none⟩) p.vs.length p.vc := hp.1
                    have h129 : slotOf a 129 = .int .i64 vk := hp.2.1
                    refine wp_yields (v := .pointer (some ⟨b3, o3 + vk, none⟩)) ?_ ⟨_, rfl, rfl, Below.refl _ _, hG⟩
                    simp [slotOf] at h125 h129
                    simp [execOp, go_sem, h125, h129, hvi]
                  · intro a W hG hR hO hp
                    have h130 : slotOf a 130 = .pointer (some ⟨b3, o3 + vk, none⟩) := hp.1
                    have c0 := keep_cell cv hG
                    refine wp_yields (v := .bool false) ?_ ⟨_, rfl, rfl, Below.refl _ _, hG⟩
                    simp [slotOf] at h130
                    simp [execOp, go_sem, h130, c0]
                  · intro a W hG hR hO hp
                    have h123 : slotOf a 123 = .bool false := hp.1
                    have h131 : slotOf a 131 = .bool false := hp.2.1
                    refine wp_yields (v := .bool false) ?_ ⟨_, rfl, rfl, Below.refl _ _, hG⟩
                    simp [slotOf] at h123 h131
                    simp [execOp, go_sem, h123, h131]
                  · intro a W hG hR hO hp
                    have h132 : slotOf a 132 = .bool false := hp.1
                    refine wp_yields (v := .bool false) ?_ ⟨_, rfl, rfl, Below.refl _ _, hG⟩
                    simp [slotOf] at h132
                    simp [execOp, go_sem, h132]
                  · intro a W hG hR hO hp
                    have h20 := hO.slot 20 (by kernel_rfl)
                    refine wp_yields (v := .int .i64 i) ?_ ⟨_, rfl, rfl, Below.refl _ _, hG⟩
                    simp [slotOf] at h20
                    simp [execOp, go_sem, h20]
                  · intro a W hG hR hO hp
                    have h134 : slotOf a 134 = .int .i64 i := hp.1
                    refine wp_yields (v := .bool false) ?_ ⟨_, rfl, rfl, Below.refl _ _, hG⟩
                    simp [slotOf] at h134
                    simp [execOp, go_sem, h134, hi0]
                  · intro a W hG hR hO hp
                    have h135 : slotOf a 135 = .bool false := hp.1
                    refine wp_yields (v := .bool false) ?_ ⟨_, rfl, rfl, Below.refl _ _, hG⟩
                    simp [slotOf] at h135
                    simp [execOp, go_sem, h135]
                  · intro a W hG hR hO hp
                    have h136 : slotOf a 136 = .bool false := hp.1
                    have h146 : slotOf a 146 = undef := hp.2.1
                    refine wp_yields (v := .bool false) ?_ ⟨_, rfl, rfl, Below.refl _ _, hG⟩
                    simp [slotOf] at h136 h146
                    simp [execOp, go_sem, h136, h146]
                · intro wj hG hR
                  rintro _ rfl _ rfl _ rfl _ rfl _ rfl _ rfl _ rfl _ rfl _ rfl _ rfl _ rfl _ rfl _ rfl _ rfl _ rfl _ rfl _ rfl _ rfl _ rfl _ rfl _ rfl _ rfl _ rfl _ rfl _ rfl _ rfl _ rfl _ rfl _ rfl _ rfl _ rfl _ rfl _ rfl _ rfl _ rfl
                  change wpList _ _ _ _ _ _
                  simp only [Act.put, List.setIfInBounds_toArray, List.set_cons_zero, List.set_cons_succ, List.drop_succ_cons, List.drop_zero]
                  have H31 := Lib.hid (And.intro ((newer_trans H30.out.1 hG)) (And.intro ((newer_trans H30.out.2.1 hG)) (And.intro ((H30.out.2.2.1.below hG H30.out.2.2.1.lt)) (((H30.out.2.2.2.below hG).more hG.size)))))
                  clear hG hR x4 cv cz e120 einb hi0 H30
                  go_wp2_with fail
                  exact ⟨⟨i + 1, by omega, by go_num, H31.out.1⟩, by (simp only [intOf]; omega)⟩
              · obtain ⟨ip, hip⟩ : ∃ ip, i = ip + 1 := ⟨i - 1, by omega⟩
                obtain ⟨zp, hzq⟩ := get_of_lt (l := L) (k := ip) (by omega)
                have hzp : ¬ ((vk : Int) ≤ zp) := by
                  have h := HCT.out.rise ip zp vk hzq (by rw [← hip]; exact HZ.out)
                  omega
                have hi0 : 0 < i := by omega
                have hipn : (ip : Int) < L.length := by omega
                have e143 : IntKind.i64.wrap ((i : Int) - 1) = (ip : Int) := by rw [IntWalk.i64_in _ (by omega)]; omega
                obtain ⟨b5, o5, e5, _, cp⟩ := row1 H30.out.2.2.2 hzq
                simp only [Option.some.injEq, Addr.mk.injEq, and_true] at e5
                obtain ⟨rfl, rfl⟩ := e5
                clear hzq
                go_upto_region 22 with fail
                refine wp_words (by kernel_rfl) (region_told_u 35 (by kernel_rfl) (by kernel_rfl) [false, false, false, false, false, false, false, false, false, false, false, false, false, false, false, false, false, false, false, false, false, false, false, false, false, false, false, false, false, false, false, false, false, false, false] (fun W => Below wi.heap.size wi W) newer [vIs (.slice (some ⟨b4, o4, none⟩) L.length cL), vIs (.int .i64 i), vIs (.pointer (some ⟨b4, o4 + i, none⟩)), vIs (.int .i64 vk), vIs (.pointer (some ⟨w.heap.size, 4, none⟩)), vIs (.slice (some ⟨b3, o3, none⟩) p.vs.length p.vc), vIs (.int .i64 p.vs.length), vIs (vi ((p.vs.length : Int) - 1)), vIs (.bool true), vIs (.bool false), vIs (.bool false), vIs (.pointer (some ⟨w.heap.size, 4, none⟩)), vIs (.slice (some ⟨b3, o3, none⟩) p.vs.length p.vc), vIs (.slice (some ⟨b4, o4, none⟩) L.length cL), vIs (.int .i64 i), vIs (.pointer (some ⟨b4, o4 + i, none⟩)), vIs (.int .i64 vk), vIs (.pointer (some ⟨b3, o3 + vk, none⟩)), vIs (.bool false), vIs (.bool false), vIs (.bool false), vIs (.int .i64 i), vIs (.bool true), vIs (.bool true), vIs (.slice (some ⟨b4, o4, none⟩) L.length cL), vIs (.int .i64 i), vIs (.pointer (some ⟨b4, o4 + i, none⟩)), vIs (.int .i64 vk), vIs (.slice (some ⟨b4, o4, none⟩) L.length cL), vIs (.int .i64 i), vIs (.int .i64 ip), vIs (.pointer (some ⟨b4, o4 + ip, none⟩)), vIs (vi zp), vIs (.bool false), vIs (.bool false)] ⟨rfl, rfl, rfl, rfl, rfl, rfl, rfl, rfl, rfl, rfl, rfl, (fun v W h => by obtain rfl : v = _ := h; rfl), (fun v W h => by obtain rfl : v = _ := h; rfl), (fun v W h => by obtain rfl : v = _ := h; rfl), (fun v W h => by obtain rfl : v = _ := h; rfl), (fun v W h => by obtain rfl : v = _ := h; rfl), (fun v W h => by obtain rfl : v = _ := h; rfl), (fun v W h => by obtain rfl : v = _ := h; rfl), (fun v W h => by obtain rfl : v = _ := h; rfl), rfl, rfl, (fun v W h => by obtain rfl : v = _ := h; rfl), (fun v W h => by obtain rfl : v = _ := h; rfl), (fun v W h => by obtain rfl : v = _ := h; rfl), (fun v W h => by obtain rfl : v = _ := h; rfl), (fun v W h => by obtain rfl : v = _ := h; rfl), (fun v W h => by obtain rfl : v = _ := h; rfl), (fun v W h => by obtain rfl : v = _ := h; rfl), (fun v W h => by obtain rfl : v = _ := h; rfl), (fun v W h => by obtain rfl : v = _ := h; rfl), (fun v W h => by obtain rfl : v = _ := h; rfl), (fun v W h => by obtain rfl : v = _ := h; rfl), (fun v W h => by obtain rfl : v = _ := h; rfl), (fun v W h => by obtain rfl : v = _ := h; rfl), (fun v W h => by obtain rfl : v = _ := h; rfl), trivial⟩ ⟨(fun h => Bool.noConfusion (show false = true from h)), (fun h => Bool.noConfusion (show false = true from h)), (fun h => Bool.noConfusion (show false = true from h)), (fun h => Bool.noConfusion (show false = true from h)), (fun h => Bool.noConfusion (show false = true from h)), (fun h => Bool.noConfusion (show false = true from h)), (fun h => Bool.noConfusion (show false = true from h)), (fun h => Bool.noConfusion (show false = true from h)), (fun h => Bool.noConfusion (show false = true from h)), (fun h => Bool.noConfusion (show false = true from h)), (fun h => Bool.noConfusion (show false = true from h)), (fun h => Bool.noConfusion (show false = true from h)), (fun h => Bool.noConfusion (show false = true from h)), (fun h => Bool.noConfusion (show false = true from h)), (fun h => Bool.noConfusion (show false = true from h)), (fun h => Bool.noConfusion (show false = true from h)), (fun h => Bool.noConfusion (show false = true from h)), (fun h => Bool.noConfusion (show false = true from h)), (fun h => Bool.noConfusion (show false = true from h)), (fun h => Bool.noConfusion (show false = true from h)), (fun h => Bool.noConfusion (show false = true from h)), (fun h => Bool.noConfusion (show false = true from h)), (fun h => Bool.noConfusion (show false = true from h)), (fun h => Bool.noConfusion (show false = true from h)), (fun h => Bool.noConfusion (show false = true from h)), (fun h => Bool.noConfusion (show false = true from h)), (fun h => Bool.noConfusion (show false = true from h)), (fun h => Bool.noConfusion (show false = true from h)), (fun h => Bool.noConfusion (show false = true from h)), (fun h => Bool.noConfusion (show false = true from h)), (fun h => Bool.noConfusion (show false = true from h)), (fun h => Bool.noConfusion (show false = true from h)), (fun h => Bool.noConfusion (show false = true from h)), (fun h => Bool.noConfusion (show false = true from h)), (fun h => Bool.noConfusion (show false = true from h)), trivial⟩ (fun h k => newer_trans h k) (pickD_stable _ ⟨vIs_st, vIs_st, vIs_st, vIs_st, vIs_st, vIs_st, vIs_st, vIs_st, vIs_st, vIs_st, vIs_st, vIs_st, vIs_st, vIs_st, vIs_st, vIs_st, vIs_st, vIs_st, vIs_st, vIs_st, vIs_st, vIs_st, vIs_st, vIs_st, vIs_st, vIs_st, vIs_st, vIs_st, vIs_st, vIs_st, vIs_st, vIs_st, vIs_st, vIs_st, vIs_st, trivial⟩) (Below.refl _ wi).drew (Below.refl _ _) ?_ ?_)
                · refine ⟨.inr ?_, .inr ?_, .inr ?_, .inr ?_, .inr ?_, .inr ?_, .inr ?_, .inr ?_, .inr ?_, .inr ?_, .inr ?_, .inr ?_, .inr ?_, .inr ?_, .inr ?_, .inr ?_, .inr ?_, .inr ?_, .inr ?_, .inr ?_, .inr ?_, .inr ?_, .inr ?_, .inr ?_, .inr ?_, .inr ?_, .inr ?_, .inr ?_, .inr ?_, .inr ?_, .inr ?_, .inr ?_, .inr ?_, .inr ?_, .inr ?_, trivial⟩
                  · intro a W hG hR hO hp
                    have h5 := hO.slot 5 (by kernel_rfl)
                    refine wp_yields (v := .slice (some ⟨b4, o4, none⟩) L.length cL) ?_ ⟨_, rfl, rfl, Below.refl _ _, hG⟩
                    simp [slotOf] at h5
                    simp [execOp, go_sem, h5]
                  · intro a W hG hR hO hp
                    have h20 := hO.slot 20 (by kernel_rfl)
                    refine wp_yields (v := .int .i64 i) ?_ ⟨_, rfl, rfl, Below.refl _ _, hG⟩
                    simp [slotOf] at h20
                    simp [execOp, go_sem, h20]
                  · intro a W hG hR hO hp
                    have h113 : slotOf a 113 = .slice (some ⟨b4, o4, none⟩) L.length cL := hp.1
                    have h114 : slotOf a 114 = .int .i64 i := hp.2.1
                    refine wp_yields (v := .pointer (some ⟨b4, o4 + i, none⟩)) ?_ ⟨_, rfl, rfl, Below.refl _ _, hG⟩
                    simp [slotOf] at h113 h114
                    simp [execOp, go_sem, h113, h114, hin]
                  · intro a W hG hR hO hp
                    have h115 : slotOf a 115 = .pointer (some ⟨b4, o4 + i, none⟩) := hp.1
                    have c0 := keep_cell cz hG
                    refine wp_yields (v := .int .i64 vk) ?_ ⟨_, rfl, rfl, Below.refl _ _, hG⟩
                    simp [slotOf] at h115
                    simp [execOp, go_sem, h115, c0]
                  · intro a W hG hR hO hp
                    have h2 := hO.slot 2 (by kernel_rfl)
                    refine wp_yields (v := .pointer (some ⟨w.heap.size, 4, none⟩)) ?_ ⟨_, rfl, rfl, Below.refl _ _, hG⟩
                    simp [slotOf] at h2
                    simp [execOp, go_sem, h2]
                  · intro a W hG hR hO hp
                    have h117 : slotOf a 117 = .pointer (some ⟨w.heap.size, 4, none⟩) := hp.1
                    have c0 := keep_cell x4 hG
                    refine wp_yields (v := .slice (some ⟨b3, o3, none⟩) p.vs.length p.vc) ?_ ⟨_, rfl, rfl, Below.refl _ _, hG⟩
                    simp [slotOf] at h117
                    simp [execOp, go_sem, h117, c0]
                  · intro a W hG hR hO hp
                    have h118 : slotOf a 118 = .slice (some ⟨b3, o3, none⟩) p.vs.length p.vc := hp.1
                    refine wp_yields (v := .int .i64 p.vs.length) ?_ ⟨_, rfl, rfl, Below.refl _ _, hG⟩
                    simp [slotOf] at h118
                    simp [go_sem, h118]
                  · intro a W hG hR hO hp
                    have h119 : slotOf a 119 = .int .i64 p.vs.length := hp.1
                    refine wp_yields (v := vi ((p.vs.length : Int) - 1)) ?_ ⟨_, rfl, rfl, Below.refl _ _, hG⟩
                    simp [slotOf] at h119
                    simp [execOp, go_sem, h119, e120]
                  · intro a W hG hR hO hp
                    have h116 : slotOf a 116 = .int .i64 vk := hp.1
                    have h120 : slotOf a 120 = vi ((p.vs.length : Int) - 1) := hp.2.1
                    refine wp_enters (f := 24) (args := #[.int .i64 vk, .int .i64 0, vi ((p.vs.length : Int) - 1)]) ?_ ((in_any _ _ _ W).mono ?_)
                    · simp [slotOf] at h116 h120
                      simp [go_sem, h116, h120]
                    · rintro e w' ⟨rfl, rfl⟩
                      exact ⟨_, rfl, _, rfl, (by rw [einb]; rfl), newer_refl _, hG⟩
                  · intro a W hG hR hO hp
                    have h121 : slotOf a 121 = .bool true := hp.1
                    refine wp_yields (v := .bool false) ?_ ⟨_, rfl, rfl, Below.refl _ _, hG⟩
                    simp [slotOf] at h121
                    simp [execOp, go_sem, h121]
                  · intro a W hG hR hO hp
                    have h122 : slotOf a 122 = .bool false := hp.1
                    refine wp_yields (v := .bool false) ?_ ⟨_, rfl, rfl, Below.refl _ _, hG⟩
                    simp [slotOf] at h122
                    simp [execOp, go_sem, h122]
                  · intro a W hG hR hO hp
                    have h2 := hO.slot 2 (by kernel_rfl)
                    refine wp_yields (v := .pointer (some ⟨w.heap.size, 4, none⟩)) ?_ ⟨_, rfl, rfl, Below.refl _ _, hG⟩
                    simp [slotOf] at h2
                    simp [execOp, go_sem, h2]
                  · intro a W hG hR hO hp
                    have h124 : slotOf a 124 = .pointer (some ⟨w.heap.size, 4, none⟩) := hp.1
                    have c0 := keep_cell x4 hG
                    refine wp_yields (v := .slice (some ⟨b3, o3, none⟩) p.vs.length p.vc) ?_ ⟨_, rfl, rfl, Below.refl _ _, hG⟩
                    simp [slotOf] at h124
                    simp [execOp, go_sem, h124, c0]
                  · intro a W hG hR hO hp
                    have h5 := hO.slot 5 (by kernel_rfl)
                    refine wp_yields (v := .slice (some ⟨b4, o4, none⟩) L.length cL) ?_ ⟨_, rfl, rfl, Below.refl _ _, hG⟩
                    simp [slotOf] at h5
                    simp [execOp, go_sem, h5]
                  · intro a W hG hR hO hp
                    have h20 := hO.slot 20 (by kernel_rfl)
                    refine wp_yields (v := .int .i64 i) ?_ ⟨_, rfl, rfl, Below.refl _ _, hG⟩
                    simp [slotOf] at h20
                    simp [execOp, go_sem, h20]
                  · intro a W hG hR hO hp
                    have h126 : slotOf a 126 = .slice (some ⟨b4, o4, none⟩) L.length cL := hp.1
                    have h127 : slotOf a 127 = .int .i64 i := hp.2.1
                    refine wp_yields (v := .pointer (some ⟨b4, o4 + i, none⟩)) ?_ ⟨_, rfl, rfl, Below.refl _ _, hG⟩
                    simp [slotOf] at h126 h127
                    simp [execOp, go_sem, h126, h127, hin]
                  · intro a W hG hR hO hp
                    have h128 : slotOf a 128 = .pointer (some ⟨b4, o4 + i, none⟩) := hp.1
                    have c0 := keep_cell cz hG
                    refine wp_yields (v := .int .i64 vk) ?_ ⟨_, rfl, rfl, Below.refl _ _, hG⟩
                    simp [slotOf] at h128
                    simp [execOp, go_sem, h128, c0]
                  · intro a W hG hR hO hp
                    have h125 : slotOf a 125 = .slice (some ⟨b3, o3, none⟩) p.vs.length p.vc := hp.1
                    have h129 : slotOf a 129 = .int .i64 vk := hp.2.1
                    refine wp_yields (v := .pointer (some ⟨b3, o3 + vk, none⟩)) ?_ ⟨_, rfl, rfl, Below.refl _ _, hG⟩
                    simp [slotOf] at h125 h129
                    simp [execOp, go_sem, h125, h129, hvi]
                  · intro a W hG hR hO hp
                    have h130 : slotOf a 130 = .pointer (some ⟨b3, o3 + vk, none⟩) := hp.1
                    have c0 := keep_cell cv hG
                    refine wp_yields (v := .bool false) ?_ ⟨_, rfl, rfl, Below.refl _ _, hG⟩
                    simp [slotOf] at h130
                    simp [execOp, go_sem, h130, c0]
                  · intro a W hG hR hO hp
                    have h123 : slotOf a 123 = .bool false := hp.1
                    have h131 : slotOf a 131 = .bool false := hp.2.1
                    refine wp_yields (v := .bool false) ?_ ⟨_, rfl, rfl, Below.refl _ _, hG⟩
                    simp [slotOf] at h123 h131
                    simp [execOp, go_sem, h123, h131]
                  · intro a W hG hR hO hp
                    have h132 : slotOf a 132 = .bool false := hp.1
                    refine wp_yields (v := .bool false) ?_ ⟨_, rfl, rfl, Below.refl _ _, hG⟩
                    simp [slotOf] at h132
                    simp [execOp, go_sem, h132]
                  · intro a W hG hR hO hp
                    have h20 := hO.slot 20 (by kernel_rfl)
                    refine wp_yields (v := .int .i64 i) ?_ ⟨_, rfl, rfl, Below.refl _ _, hG⟩
                    simp [slotOf] at h20
                    simp [execOp, go_sem, h20]
                  · intro a W hG hR hO hp
                    have h134 : slotOf a 134 = .int .i64 i := hp.1
                    refine wp_yields (v := .bool true) ?_ ⟨_, rfl, rfl, Below.refl _ _, hG⟩
                    simp [slotOf] at h134
                    simp [execOp, go_sem, h134, hi0]
                  · intro a W hG hR hO hp
                    have h135 : slotOf a 135 = .bool true := hp.1
                    refine wp_yields (v := .bool true) ?_ ⟨_, rfl, rfl, Below.refl _ _, hG⟩
                    simp [slotOf] at h135
                    simp [execOp, go_sem, h135]
                  · intro a W hG hR hO hp
                    have h5 := hO.slot 5 (by kernel_rfl)
                    refine wp_yields (v := .slice (some ⟨b4, o4, none⟩) L.length cL) ?_ ⟨_, rfl, rfl, Below.refl _ _, hG⟩
                    simp [slotOf] at h5
                    simp [execOp, go_sem, h5]
                  · intro a W hG hR hO hp
                    have h20 := hO.slot 20 (by kernel_rfl)
                    refine wp_yields (v := .int .i64 i) ?_ ⟨_, rfl, rfl, Below.refl _ _, hG⟩
                    simp [slotOf] at h20
                    simp [execOp, go_sem, h20]
                  · intro a W hG hR hO hp
                    have h137 : slotOf a 137 = .slice (some ⟨b4, o4, none⟩) L.length cL := hp.1
                    have h138 : slotOf a 138 = .int .i64 i := hp.2.1
                    refine wp_yields (v := .pointer (some ⟨b4, o4 + i, none⟩)) ?_ ⟨_, rfl, rfl, Below.refl _ _, hG⟩
                    simp [slotOf] at h137 h138
                    simp [execOp, go_sem, h137, h138, hin]
                  · intro a W hG hR hO hp
                    have h139 : slotOf a 139 = .pointer (some ⟨b4, o4 + i, none⟩) := hp.1
                    have c0 := keep_cell cz hG
                    refine wp_yields (v := .int .i64 vk) ?_ ⟨_, rfl, rfl, Below.refl _ _, hG⟩
                    simp [slotOf] at h139
                    simp [execOp, go_sem, h139, c0]
                  · intro a W hG hR hO hp
                    have h5 := hO.slot 5 (by kernel_rfl)
                    refine wp_yields (v := .slice (some ⟨b4, o4, none⟩) L.length cL) ?_ ⟨_, rfl, rfl, Below.refl _ _, hG⟩
                    simp [slotOf] at h5
                    simp [execOp, go_sem, h5]
                  · intro a W hG hR hO hp
                    have h20 := hO.slot 20 (by kernel_rfl)
                    refine wp_yields (v := .int .i64 i) ?_ ⟨_, rfl, rfl, Below.refl _ _, hG⟩
                    simp [slotOf] at h20
                    simp [execOp, go_sem, h20]
                  · intro a W hG hR hO hp
                    have h142 : slotOf a 142 = .int .i64 i := hp.1
                    refine wp_yields (v := .int .i64 ip) ?_ ⟨_, rfl, rfl, Below.refl _ _, hG⟩
                    simp [slotOf] at h142
                    simp [execOp, go_sem, h142, e143]
                  · intro a W hG hR hO hp
                    have h141 : slotOf a 141 = .slice (some ⟨b4, o4, none⟩) L.length cL := hp.1
                    have h143 : slotOf a 143 = .int .i64 ip := hp.2.1
                    refine wp_yields (v := .pointer (some ⟨b4, o4 + ip, none⟩)) ?_ ⟨_, rfl, rfl, Below.refl _ _, hG⟩
                    simp [slotOf] at h141 h143
                    simp [execOp, go_sem, h141, h143, hipn]
                  · intro a W hG hR hO hp
                    have h144 : slotOf a 144 = .pointer (some ⟨b4, o4 + ip, none⟩) := hp.1
                    have c0 := keep_cell cp hG
                    refine wp_yields (v := vi zp) ?_ ⟨_, rfl, rfl, Below.refl _ _, hG⟩
                    simp [slotOf] at h144
                    simp [execOp, go_sem, h144, c0]
                  · intro a W hG hR hO hp
                    have h140 : slotOf a 140 = .int .i64 vk := hp.1
                    have h145 : slotOf a 145 = vi zp := hp.2.1
                    refine wp_yields (v := .bool false) ?_ ⟨_, rfl, rfl, Below.refl _ _, hG⟩
                    simp [slotOf] at h140 h145
                    simp [execOp, go_sem, h140, h145, hzp]
                  · intro a W hG hR hO hp
                    have h136 : slotOf a 136 = .bool true := hp.1
                    have h146 : slotOf a 146 = .bool false := hp.2.1
                    refine wp_yields (v := .bool false) ?_ ⟨_, rfl, rfl, Below.refl _ _, hG⟩
                    simp [slotOf] at h136 h146
                    simp [execOp, go_sem, h136, h146]
                · intro wj hG hR
                  rintro _ rfl _ rfl _ rfl _ rfl _ rfl _ rfl _ rfl _ rfl _ rfl _ rfl _ rfl _ rfl _ rfl _ rfl _ rfl _ rfl _ rfl _ rfl _ rfl _ rfl _ rfl _ rfl _ rfl _ rfl _ rfl _ rfl _ rfl _ rfl _ rfl _ rfl _ rfl _ rfl _ rfl _ rfl _ rfl
                  change wpList _ _ _ _ _ _
                  simp only [Act.put, List.setIfInBounds_toArray, List.set_cons_zero, List.set_cons_succ, List.drop_succ_cons, List.drop_zero]
                  have H32 := Lib.hid (And.intro ((newer_trans H30.out.1 hG)) (And.intro ((newer_trans H30.out.2.1 hG)) (And.intro ((H30.out.2.2.1.below hG H30.out.2.2.1.lt)) (((H30.out.2.2.2.below hG).more hG.size)))))
                  clear hG hR x4 cv cz e120 einb hi0 cp e143 hzp hipn H30
                  go_wp2_with fail
                  exact ⟨⟨i + 1, by omega, by go_num, H32.out.1⟩, by (simp only [intOf]; omega)⟩
            · obtain rfl : i = L.length := by omega
              have hin : ¬ ((L.length : Int) < L.length) := by omega
              clear hlt
              have HLL2 : Hid (∀ v ∈ L, 0 ≤ v ∧ v < p.vs.length) := Lib.hid (fun v hv => by obtain ⟨k, rfl, hk⟩ := HLI.out v hv; have := (List.getElem?_eq_some_iff.1 hk).1; omega)
              obtain ⟨Oe, hOe⟩ : ∃ Oe, Oe = bestE (decQ q L) := ⟨_, rfl⟩
              obtain ⟨Om, hOm⟩ : ∃ Om, Om = costOf (bestR (decQ q L)) := ⟨_, rfl⟩
              have HOe_ := Lib.hid hOe
              have HOm_ := Lib.hid hOm
              have HB3 := Lib.hid (fun (p3 : Pm) (V : World) (hj : p3.pj = decQ q L) (hok : PmOk p3 V) (hpc : p3.ps.length ≤ p3.pc) => best_list hj hok (few_of (pjOk_of (by rw [hj]; exact dec_fault HFO.out L))) hpc)
              rw [← hOe, ← hOm] at HB3
              clear hOe hOm
              have x0 := H30.out.2.2.1.at 0 (v := vi p.years) rfl
              have x1 := H30.out.2.2.1.at 1 (v := vi p.slopes) rfl
              have x2 := H30.out.2.2.1.at 2 (v := .slice p.wa p.ws.length p.wc) rfl
              have x3 := H30.out.2.2.1.at 3 (v := .slice p.na p.ns.length p.nc) rfl
              have x4 := H30.out.2.2.1.at 4 (v := .slice p.va p.vs.length p.vc) rfl
              have x5 := H30.out.2.2.1.at 5 (v := .slice p.pa p.ps.length p.pc) rfl
              go_wp2_with fail
              refine (refDecided p L AL cL wi (HOK.out.next H30.out.2.1) (by have := HV6.out; omega) (by have := HLX.out; omega) HLL2.out H30.out.2.2.2).mono ?_
              rintro e w33 ⟨⟨p2, rfl, hj2, ho2, -⟩, hb⟩
              rw [← HQ.out] at hj2
              have HJ2 := Lib.hid hj2
              clear hj2
              have H34 := Lib.hid (And.intro ((newer_trans H30.out.1 hb)) (And.intro ((newer_trans H30.out.2.1 hb)) (And.intro ((H30.out.2.2.1.below hb H30.out.2.2.1.lt)) (And.intro (((H30.out.2.2.2.below hb).more hb.size)) (ho2)))))
              clear hb ho2 H30 x0 x1 x2 x3 x4 x5
              go_wp2_with fail
              refine (lawProject p2 w33 H34.out.2.2.2.2 (few_of (pjOk_of (by rw [HJ2.out]; exact dec_fault HFO.out L)))).mono ?_
              rintro e w35 ⟨⟨p3, rfl, hj3, ho3, hpc3⟩, hb⟩
              have HJ3 := Lib.hid (And.intro (hj3.trans HJ2.out) hpc3)
              clear hj3 hpc3
              have H36 := Lib.hid (And.intro ((newer_trans H34.out.1 hb)) (And.intro ((newer_trans H34.out.2.1 hb)) (And.intro ((H34.out.2.2.1.below hb H34.out.2.2.1.lt)) (And.intro (((H34.out.2.2.2.1.below hb).more hb.size)) (ho3)))))
              clear hb ho3 HJ2 H34
              go_wp2_with fail
              refine (HB3.out p3 _ HJ3.out.1 H36.out.2.2.2.2 HJ3.out.2).mono ?_
              rintro e w37 ⟨⟨A7, c7, rfl, -⟩, hb⟩
              have H38 := Lib.hid (And.intro ((newer_trans H36.out.1 hb)) (And.intro ((newer_trans H36.out.2.1 hb)) (And.intro ((H36.out.2.2.1.below hb H36.out.2.2.1.lt)) (((H36.out.2.2.2.1.below hb).more hb.size)))))
              clear hb HB3 HJ3 H36
              obtain rfl : Oe = 0 := HOe_.out.trans HCT.out.best
              have hls2 := bestE_two (q := decQ q ls) (faultOk_iff.2 (dec_fault HFO.out ls))
              rw [← HSe_.out] at hls2
              have hem := HCT.out.empty
              rw [← HFF.out] at hem
              have hf2 := bestE_two (q := q) HFZ.out
              rw [← HFF.out] at hf2
              rcases hf2 with rfl | rfl
              · have hl0 : ((L.length : Int) == 0) = true := by rw [beq_iff_eq]; have := hem.2 rfl; omega
                have hlc := HLC.out rfl
                clear hem
                rcases hls2 with rfl | rfl
                · have hfe := HFEW.out rfl
                  have hfi : (L.length : Int) ≤ (lg.length : Int) := by omega
                  go_wp2_with (go_at_call 17; refine (wakes_any _).mono ?_; rintro e w' ⟨rfl, hwk⟩; have HWK := Lib.hid (newer_trans H38.out.2.1 hwk); clear hwk)
                  go_ret
                  exact ⟨rfl, HWK.out⟩
                · go_wp2_with (go_at_call 17; refine (wakes_any _).mono ?_; rintro e w' ⟨rfl, hwk⟩; have HWK := Lib.hid (newer_trans H38.out.2.1 hwk); clear hwk)
                  go_ret
                  exact ⟨rfl, HWK.out⟩
              · have hl0 : ((L.length : Int) == 0) = false := by rw [beq_eq_false_iff_ne]; intro e; have := hem.1 (by omega); cases this
                clear hem
                rcases hls2 with rfl | rfl
                · have hfe := HFEW.out rfl
                  have hfi : (L.length : Int) ≤ (lg.length : Int) := by omega
                  go_wp2_with (go_at_call 17; refine (wakes_any _).mono ?_; rintro e w' ⟨rfl, hwk⟩; have HWK := Lib.hid (newer_trans H38.out.2.1 hwk); clear hwk)
                  go_ret
                  exact ⟨rfl, HWK.out⟩
                · go_wp2_with (go_at_call 17; refine (wakes_any _).mono ?_; rintro e w' ⟨rfl, hwk⟩; have HWK := Lib.hid (newer_trans H38.out.2.1 hwk); clear hwk)
                  go_ret
                  exact ⟨rfl, HWK.out⟩
        · rw [← HEE.out] at hE
          subst hE
          have hno := court_no HFO.out HEE.out.symm
          obtain rfl : F = 9 := HFF.out.trans hno.1
          obtain rfl : Ge = 9 := HKE.out.1.trans (hno.2 ev)
          obtain rfl : Se = 9 := HKE.out.2.trans (hno.2 bt)
          clear hno
          go_wp2_with (go_at_call 17; refine (wakes_any _).mono ?_; rintro e w' ⟨rfl, hwk⟩; have HWK := Lib.hid (newer_trans H29.out.2.1 hwk); clear hwk)
          go_ret
          exact ⟨rfl, HWK.out⟩
end Go.Proofs.Ytpnpnfjhjjdmgaa
