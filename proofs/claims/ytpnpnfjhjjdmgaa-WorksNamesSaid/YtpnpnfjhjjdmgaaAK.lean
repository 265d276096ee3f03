/- Whether a plan suffices. -/
import Derived.Test.YtpnpnfjhjjdmgaaAJ
namespace Go.Proofs.Ytpnpnfjhjjdmgaa
open Go.RowKit Go.Deep

/-- Does a plan suffice? -/
def suffB (q : Pj) (plan : List Int) : Bool := decide (checkN q plan = 0) && (decide ((missP q plan).length = 0) && allowB q plan)
theorem sp5_at {f : List Int} {k : Nat} (h : k < 5) : (sp5 f)[k]? = some (vi (iAt f k)) := by
  match k, h with
  | 0, _ => rfl
  | 1, _ => rfl
  | 2, _ => rfl
  | 3, _ => rfl
  | 4, _ => rfl
theorem sp5_set {f g : List Int} {k : Nat} (h : k < 5) (he : ∀ j, j < 5 → j ≠ k → iAt g j = iAt f j) : (sp5 f).setIfInBounds k (vi (iAt g k)) = sp5 g := by
  match k, h with
  | 0, _ => simp [sp5, he 1 (by omega) (by omega), he 2 (by omega) (by omega), he 3 (by omega) (by omega), he 4 (by omega) (by omega)]
  | 1, _ => simp [sp5, he 0 (by omega) (by omega), he 2 (by omega) (by omega), he 3 (by omega) (by omega), he 4 (by omega) (by omega)]
  | 2, _ => simp [sp5, he 0 (by omega) (by omega), he 1 (by omega) (by omega), he 3 (by omega) (by omega), he 4 (by omega) (by omega)]
  | 3, _ => simp [sp5, he 0 (by omega) (by omega), he 1 (by omega) (by omega), he 2 (by omega) (by omega), he 4 (by omega) (by omega)]
  | 4, _ => simp [sp5, he 0 (by omega) (by omega), he 1 (by omega) (by omega), he 2 (by omega) (by omega), he 3 (by omega) (by omega)]
theorem spK_next {ws : List Wd} {plan : List Int} {k j : Nat} {b : Int} {x : Wd} (h1 : plan[k]? = some b) (h2 : ws[k]? = some x) (hj : j < 5) : iAt (spK ws plan (k + 1)) j = iAt (spK ws plan k) j + (if b = (j : Int) then x.price else 0) := by
  rw [iAt_of (spK_at hj), iAt_of (spK_at hj), sum_take (spT_at h1 h2)]
theorem spK_never {ws : List Wd} {plan : List Int} {k : Nat} {x : Wd} (h1 : plan[k]? = some (-1)) (h2 : ws[k]? = some x) : spK ws plan (k + 1) = spK ws plan k := by
  unfold spK
  refine List.map_congr_left fun y _ => ?_
  rw [sum_take (spT_at h1 h2), if_neg (by omega)]
  simp
set_option maxRecDepth 100000 in
set_option maxHeartbeats 8000000 in
theorem suffices_any (p : Pm) (plan : List Int) (L : Option Addr) (lp : Nat) (w : World) (hok : PmOk p w) (few : PmFew p) (hl : plan.length ≤ 1000) (hpc : p.ps.length ≤ p.pc) (hr : Row intL 1 w w.heap.size L plan) :
    Calls Try.prog 37 #[pmV p, .slice L plan.length lp] w fun e w' => e = .returned (.bool (suffB p.pj plan)) ∧ newer w w' := by
  have hnw := newer_allocH w (.cells (pmC p) 35)
  have H0 := Lib.hid (And.intro hnw (Whole.made w 35 (pmC p)))
  have HMS := Lib.hid (missing_any p plan L lp _ (hok.next hnw) few hl ((hr.below hnw).more hnw.size))
  have x0 := H0.out.2.at 0 (v := vi p.years) rfl
  have x1 := H0.out.2.at 1 (v := vi p.slopes) rfl
  have x2 := H0.out.2.at 2 (v := .slice p.wa p.ws.length p.wc) rfl
  have x3 := H0.out.2.at 3 (v := .slice p.na p.ns.length p.nc) rfl
  have x4 := H0.out.2.at 4 (v := .slice p.va p.vs.length p.vc) rfl
  have x5 := H0.out.2.at 5 (v := .slice p.pa p.ps.length p.pc) rfl
  have HOK := Lib.hid hok
  have HR := Lib.hid hr
  obtain ⟨res, hres⟩ : ∃ res, res = suffB p.pj plan := ⟨_, rfl⟩
  have HRS := Lib.hid hres
  rw [← hres]
  clear hnw hok hr few hres
  by_cases hc : checkN p.pj plan = 0
  case neg =>
    have HRF : Hid (res = false) := Lib.hid (by rw [HRS.out]; unfold suffB; rw [decide_eq_false hc]; rfl)
    obtain ⟨f, hf⟩ : ∃ f, f = checkN p.pj plan := ⟨_, rfl⟩
    have hfb : (f != 0) = true := by rw [hf]; simpa using hc
    unfold missed at HMS
    rw [← hf] at HMS
    clear hc hf
    go_enter Try.func37, Try.ntmps37
    go_wp2_with fail
    refine (HMS.out).mono ?_
    rintro e w1 ⟨A, c, rfl, -, hb⟩
    have HN := Lib.hid (newer_trans H0.out.1 hb)
    clear hb
    go_wp2_with fail
    go_ret
    exact ⟨by rw [HRF.out] <;> rfl, HN.out⟩
  have HC0 := Lib.hid hc
  have hmo : missOut p.pj plan = missP p.pj plan := by unfold missOut; rw [if_pos hc]
  unfold missed at HMS
  rw [hmo, hc] at HMS
  obtain ⟨m, hm⟩ : ∃ m, m = (missP p.pj plan).length := ⟨_, rfl⟩
  rw [← hm] at HMS
  by_cases hmz : m = 0
  case neg =>
    have hmp : (0 : Int) < m := by omega
    have HRF : Hid (res = false) := Lib.hid (by rw [HRS.out]; unfold suffB; rw [← hm, decide_eq_false hmz]; simp)
    clear hc hm hmo hmz
    go_enter Try.func37, Try.ntmps37
    go_wp2_with fail
    refine (HMS.out).mono ?_
    rintro e w1 ⟨A, c, rfl, -, hb⟩
    have HN := Lib.hid (newer_trans H0.out.1 hb)
    clear hb
    go_wp2_with fail
    go_ret
    exact ⟨by rw [HRF.out] <;> rfl, HN.out⟩
  have HRA : Hid (res = allowB p.pj plan) := Lib.hid (by rw [HRS.out]; unfold suffB; rw [← hm, decide_eq_true hmz, decide_eq_true hc]; rfl)
  subst hmz
  have hfz : faultN p.pj = 0 := by
    unfold checkN at hc
    by_cases hf : faultN p.pj = 0
    · exact hf
    · rw [if_neg hf] at hc; exact absurd hc hf
  have hpl : planB p.pj.works plan = true := by
    unfold checkN at hc
    rw [if_pos hfz] at hc
    cases hq : planB p.pj.works plan with
    | true => rfl
    | false => rw [hq] at hc; simp at hc
  have hpo := fault_ok hfz
  have HPO := Lib.hid hpo
  have HPL := Lib.hid (plan_ok hpo hpl)
  have HPB : Hid (∀ x ∈ p.pj.works, 0 ≤ x.price ∧ x.price ≤ 1000000) := Lib.hid (fun x hx => by
    obtain ⟨z, hz, rfl⟩ := List.mem_map.1 hx
    have := (wdB_parts (hpo.ws z hz)).1
    omega)
  have hpn : plan.length ≤ 8 := by have h1 := HPL.out.1; have h2 := hpo.wn; omega
  have HWG : Hid (∀ (k : Nat) (x : Wk), p.ws[k]? = some x → p.pj.works[k]? = some x.d) := Lib.hid (fun k x hx => by simp [Pm.pj, hx])
  have HZL : Hid ((plan.zip p.pj.works).length = plan.length) := Lib.hid (by rw [List.length_zip, show p.pj.works.length = p.ws.length by simp [Pm.pj]]; have := HPL.out.1; omega)
  have hq0 : ¬ ((0 : Int) < ((0 : Nat) : Int)) := by omega
  clear hc hm hmo hfz hpl hpo
  go_enter Try.func37, Try.ntmps37
  go_wp2_with fail
  refine (HMS.out).mono ?_
  rintro e w1 ⟨A, c, rfl, -, hb⟩
  have H1 := Lib.hid (And.intro (newer_trans H0.out.1 hb) (H0.out.2.below hb H0.out.2.lt))
  clear hb H0 HMS x0 x1 x2 x3 x4 x5
  obtain ⟨aa, haa⟩ : ∃ aa, aa = L := ⟨_, rfl⟩
  rw [← haa]
  have HAA := Lib.hid haa
  clear haa
  go_upto_region 5 with fail
  refine genQ (fun X => newer w1 X ∧ Whole X w1.heap.size 109 (sp5 (spK p.pj.works plan 0))) ⟨newer_allocH _ _, Whole.made _ _ _⟩ ?_
  obtain ⟨ab, hab⟩ : ∃ ab, ab = w1.heap.size := ⟨_, rfl⟩
  rw [← hab]
  rintro w2 ⟨hn, hwa⟩
  have HAB : Hid (w.heap.size < ab) := Lib.hid (by rw [hab]; exact H1.out.2.lt)
  have H2 := Lib.hid (And.intro (newer_trans H1.out.1 hn) (And.intro (H1.out.2.below hn H1.out.2.lt) hwa))
  clear hn hwa H1 hab hq0
  go_wp2_with fail
  go_loopw [25] (fun s25 wr => ∃ k : Nat, k ≤ plan.length ∧ s25 = .int .i64 k ∧ newer w wr ∧ Whole wr w.heap.size 35 (pmC p) ∧ Whole wr ab 109 (sp5 (spK p.pj.works plan k)) ∧ early (fun q => !okS p.vs q) (plan.zip p.pj.works) k) (fun s25 _ => plan.length - (intOf s25).toNat)
  case atStart => exact ⟨0, Nat.zero_le _, rfl, H2.out.1, H2.out.2.1, H2.out.2.2, early_zero _ _⟩
  case round =>
    obtain ⟨k, hk, rfl, hbw, hbx, hba, he⟩ := hrel
    clear H2
    have HE := Lib.hid he
    clear he
    by_cases hlt : k < plan.length
    · have hln := HPL.out.1
      have hkp : (k : Int) < plan.length := by omega
      have hkn : (k : Int) < p.ws.length := by omega
      obtain ⟨y, hy⟩ := get_of_lt hlt
      obtain ⟨x, hx⟩ := get_of_lt (l := p.ws) (k := k) (by omega)
      have hyb := HPL.out.2 y (List.mem_of_getElem? hy)
      have HWB := Lib.hid (wdB_parts (HPO.out.ws x (List.mem_of_getElem? hx)))
      have HXG := Lib.hid (And.intro hy (HWG.out k x hx))
      have HZ := Lib.hid (zip_at hy (HWG.out k x hx))
      obtain ⟨b3, o3, e3, _, cy⟩ := row1 ((HR.out.below hbw).more hbw.size) hy
      have e5 := HAA.out.trans e3
      clear e3 HAA
      subst e5
      by_cases hym : y = -1
      · have hyq : (y == -1) = true := by rw [beq_iff_eq]; exact hym
        have HEN := Lib.hid (early_succ HE.out HZ.out (show (!okS p.vs (y, x.d)) = false by unfold okS; rw [decide_eq_false (show ¬ (0 ≤ y) by omega)]; rfl))
        have HSN : Hid (spK p.pj.works plan (k + 1) = spK p.pj.works plan k) := Lib.hid (spK_never (by rw [← hym]; exact HXG.out.1) HXG.out.2)
        have HB := Lib.hid (And.intro hbw (And.intro hbx hba))
        clear hbw hbx hba hy hx hyb hln hym
        go_wp2_with fail
        go_roundw
        case rel => exact ⟨k + 1, by omega, by go_num, HB.out.1, HB.out.2.1, by rw [HSN.out]; exact HB.out.2.2, HEN.out⟩
        case measure => simp [intOf]; omega
      · have hyq : (y == -1) = false := by rw [beq_eq_false_iff_ne]; exact hym
        obtain ⟨b2, o2, e2, _, d0, d1, d2, d3, d4, d5⟩ := row6 (HOK.out.next hbw).ws hx
        have x0 := hbx.at 0 (v := vi p.years) rfl
        have x1 := hbx.at 1 (v := vi p.slopes) rfl
        have x2 := hbx.at 2 (v := .slice p.wa p.ws.length p.wc) rfl
        have x3 := hbx.at 3 (v := .slice p.na p.ns.length p.nc) rfl
        have x4 := hbx.at 4 (v := .slice p.va p.vs.length p.vc) rfl
        have x5 := hbx.at 5 (v := .slice p.pa p.ps.length p.pc) rfl
        have HX2 := Lib.hid x2
        rw [e2] at x2
        obtain ⟨yk, hyk⟩ : ∃ yk : Nat, y = yk := ⟨y.toNat, by omega⟩
        have hvb := HWB.out.2.2.2.1
        obtain ⟨ag, hag⟩ : ∃ ag, ag = agreeB p.vs x.d := ⟨_, rfl⟩
        have HAG : Hid (∀ V, newer w V → Calls Try.prog 62 #[pmV p, wkV x] V fun e w' => e = .returned (.bool ag) ∧ newer V w') := Lib.hid (fun V hV => by
          rw [hag]
          exact agreed_any p x V (HOK.out.next hV) (by simp only [inB, Bool.and_eq_true, decide_eq_true_eq]; omega))
        have HOS : Hid (okS p.vs (y, x.d) = ag) := Lib.hid (by
          rw [hag]
          unfold okS agreeB
          rw [decide_eq_true (show 0 ≤ y by omega)]
          by_cases hv : x.d.village = -1
          · rw [decide_eq_true hv, decide_eq_false (show ¬ (0 ≤ x.d.village) by omega)]
            rfl
          · rw [decide_eq_false hv, decide_eq_true (show 0 ≤ x.d.village by omega)]
            simp)
        have hk8 : k ≤ 8 := by omega
        have hy5 : (yk : Int) < 5 := by omega
        have hyN : yk < 5 := by omega
        obtain ⟨ac, hac⟩ : ∃ ac, ac = iAt (spK p.pj.works plan k) yk := ⟨_, rfl⟩
        have hacb : 0 ≤ ac ∧ ac ≤ 8000000 := by rw [hac]; exact iAt_bd (by omega) (spK_bd hk8 HPB.out) yk
        have hpb := HWB.out.1
        obtain ⟨su, hsu⟩ : ∃ su, su = ac + x.d.price := ⟨_, rfl⟩
        have esu : IntKind.i64.wrap (ac + x.d.price) = su := by rw [hsu]; exact IntWalk.i64_in _ (by omega)
        have HSN : Hid ((sp5 (spK p.pj.works plan k)).setIfInBounds yk (vi su) = sp5 (spK p.pj.works plan (k + 1))) := Lib.hid (by
          have h1 := spK_next HXG.out.1 HXG.out.2 hyN
          rw [if_pos hyk, ← hac, ← hsu] at h1
          rw [← h1]
          refine sp5_set hyN fun j hj hne => ?_
          rw [spK_next HXG.out.1 HXG.out.2 hj, if_neg (by omega)]
          simp)
        have ca := hba.at yk (v := vi ac) (by rw [sp5_at hyN, hac])
        have HB := Lib.hid (And.intro hbw (And.intro hbx hba))
        have hy2 : y = (yk : Int) := hyk
        clear hbw hbx hba hy hx hyb hln hym hvb hag hk8 hac hacb hpb hsu hyk e2
        go_upto_region 9 with fail
        refine wp_words (by kernel_rfl) (region_told 7 (by kernel_rfl) (by kernel_rfl) (fun W => Below wr.heap.size wr W) newer (pickD [vIs (pmV p), vIs (.pointer (some ⟨w.heap.size, 2, none⟩)), vIs (.slice (some ⟨b2, o2, none⟩) p.ws.length p.wc), vIs (.int .i64 k), vIs (.pointer (some ⟨b2, o2 + k * 6, none⟩)), vIs (wkV x), vIs (.bool ag)]) (fun h k => newer_trans h k) (pickD_stable _ ⟨vIs_st, vIs_st, vIs_st, vIs_st, vIs_st, vIs_st, vIs_st, trivial⟩) (Below.refl _ wr).drew (Below.refl _ _) ?_ ?_)
        · refine ⟨?_, ?_, ?_, ?_, ?_, ?_, ?_, trivial⟩
          · intro a W hG hR hO hp
            have h2 := hO.slot 2 (by kernel_rfl)
            have c0 := keep_cell x0 hG
            have c1 := keep_cell x1 hG
            have c2 := keep_cell HX2.out hG
            have c3 := keep_cell x3 hG
            have c4 := keep_cell x4 hG
            have c5 := keep_cell x5 hG
            refine wp_yields (v := pmV p) ?_ ⟨_, rfl, rfl, Below.refl _ _, hG⟩
            simp [slotOf] at h2
            simp [execOp, go_sem, h2, c0, c1, c2, c3, c4, c5]
          · intro a W hG hR hO hp
            have h2 := hO.slot 2 (by kernel_rfl)
            refine wp_yields (v := .pointer (some ⟨w.heap.size, 2, none⟩)) ?_ ⟨_, rfl, rfl, Below.refl _ _, hG⟩
            simp [slotOf] at h2
            simp [execOp, go_sem, h2]
          · intro a W hG hR hO hp
            have h33 : slotOf a 33 = .pointer (some ⟨w.heap.size, 2, none⟩) := hp.1
            have c0 := keep_cell x2 hG
            refine wp_yields (v := .slice (some ⟨b2, o2, none⟩) p.ws.length p.wc) ?_ ⟨_, rfl, rfl, Below.refl _ _, hG⟩
            simp [slotOf] at h33
            simp [execOp, go_sem, h33, c0]
          · intro a W hG hR hO hp
            have h8 := hO.slot 8 (by kernel_rfl)
            refine wp_yields (v := .int .i64 k) ?_ ⟨_, rfl, rfl, Below.refl _ _, hG⟩
            simp [slotOf] at h8
            simp [execOp, go_sem, h8]
          · intro a W hG hR hO hp
            have h34 : slotOf a 34 = .slice (some ⟨b2, o2, none⟩) p.ws.length p.wc := hp.1
            have h35 : slotOf a 35 = .int .i64 k := hp.2.1
            refine wp_yields (v := .pointer (some ⟨b2, o2 + k * 6, none⟩)) ?_ ⟨_, rfl, rfl, Below.refl _ _, hG⟩
            simp [slotOf] at h34 h35
            simp [execOp, go_sem, h34, h35, hkn]
          · intro a W hG hR hO hp
            have h36 : slotOf a 36 = .pointer (some ⟨b2, o2 + k * 6, none⟩) := hp.1
            have c0 := keep_cell d0 hG
            have c1 := keep_cell d1 hG
            have c2 := keep_cell d2 hG
            have c3 := keep_cell d3 hG
            have c4 := keep_cell d4 hG
            have c5 := keep_cell d5 hG
            refine wp_yields (v := wkV x) ?_ ⟨_, rfl, rfl, Below.refl _ _, hG⟩
            simp [slotOf] at h36
            simp [execOp, go_sem, h36, c0, c1, c2, c3, c4, c5]
          · intro a W hG hR hO hp
            have h32 : slotOf a 32 = pmV p := hp.1
            have h37 : slotOf a 37 = wkV x := hp.2.1
            refine wp_enters (f := 62) (args := #[pmV p, wkV x]) ?_ ((HAG.out W (newer_trans HB.out.1 hG)).mono ?_)
            · simp [slotOf] at h32 h37
              simp [go_sem, h32, h37]
            · rintro e w' ⟨rfl, hb⟩
              exact ⟨_, rfl, _, rfl, rfl, hb, below_next hG hb⟩
        · intro W hG hR
          rintro _ rfl _ rfl _ rfl _ rfl _ rfl _ rfl _ rfl
          change wpList _ _ _ _ _ _
          simp only [Act.put, List.setIfInBounds_toArray, List.set_cons_zero, List.set_cons_succ, List.drop_succ_cons, List.drop_zero]
          have HB2 := Lib.hid (And.intro (newer_trans HB.out.1 hG) (And.intro (HB.out.2.1.below hG HB.out.2.1.lt) (HB.out.2.2.below hG HB.out.2.2.lt)))
          have ca' := keep_cell ca hG
          have x2' := keep_cell x2 hG
          have d0' := keep_cell d0 hG
          clear hG hR HB ca x0 x1 x2 x3 x4 x5 d0 d1 d2 d3 d4 d5 cy HAG
          obtain ⟨w9, hw9⟩ : ∃ w9, w9 = W := ⟨_, rfl⟩
          rw [← hw9] at HB2 ca' x2' d0' ⊢
          clear hw9 W
          have ca := ca'
          have x2 := x2'
          have d0 := d0'
          clear ca' x2' d0'
          cases ag with
          | false =>
            have HRF : Hid (res = false) := Lib.hid (by
              rw [HRA.out]
              unfold allowB
              rw [show (plan.zip p.pj.works).all (okS p.pj.villages) = false from all_bad HZ.out HOS.out]
              rfl)
            go_wp2_with fail
            go_ret
            exact ⟨by rw [HRF.out] <;> rfl, HB2.out.1⟩
          | true =>
            have HEN := Lib.hid (early_succ HE.out HZ.out (show (!okS p.vs (y, x.d)) = false by rw [HOS.out]; rfl))
            go_upto_region 11 with fail
            clear hy2
            refine wp_words (by kernel_rfl) (region_told 11 (by kernel_rfl) (by kernel_rfl) (fun W => Below w9.heap.size w9 W) newer (pickD [vIs (.int .i64 yk), vIs (.pointer (some ⟨ab, yk, none⟩)), vIs (vi ac), vIs (.pointer (some ⟨w.heap.size, 2, none⟩)), vIs (.slice (some ⟨b2, o2, none⟩) p.ws.length p.wc), vIs (.int .i64 k), vIs (.pointer (some ⟨b2, o2 + k * 6, none⟩)), vIs (.pointer (some ⟨b2, o2 + k * 6, none⟩)), vIs (vi x.d.price), vIs (vi su), vIs (.pointer (some ⟨ab, yk, none⟩))]) (fun h k => newer_trans h k) (pickD_stable _ ⟨vIs_st, vIs_st, vIs_st, vIs_st, vIs_st, vIs_st, vIs_st, vIs_st, vIs_st, vIs_st, vIs_st, trivial⟩) (Below.refl _ w9).drew (Below.refl _ _) ?_ ?_)
            · refine ⟨?_, ?_, ?_, ?_, ?_, ?_, ?_, ?_, ?_, ?_, ?_, trivial⟩
              · intro a W hG hR hO hp
                have h9 := hO.slot 9 (by kernel_rfl)
                refine wp_yields (v := .int .i64 yk) ?_ ⟨_, rfl, rfl, Below.refl _ _, hG⟩
                simp [slotOf] at h9
                simp [execOp, go_sem, h9]
              · intro a W hG hR hO hp
                have h7 := hO.slot 7 (by kernel_rfl)
                have h40 : slotOf a 40 = .int .i64 yk := hp.1
                refine wp_yields (v := .pointer (some ⟨ab, yk, none⟩)) ?_ ⟨_, rfl, rfl, Below.refl _ _, hG⟩
                simp [slotOf] at h7 h40
                simp [execOp, go_sem, h7, h40, hy5]
              · intro a W hG hR hO hp
                have h41 : slotOf a 41 = .pointer (some ⟨ab, yk, none⟩) := hp.1
                have c0 := keep_cell ca hG
                refine wp_yields (v := vi ac) ?_ ⟨_, rfl, rfl, Below.refl _ _, hG⟩
                simp [slotOf] at h41
                simp [execOp, go_sem, h41, c0]
              · intro a W hG hR hO hp
                have h2 := hO.slot 2 (by kernel_rfl)
                refine wp_yields (v := .pointer (some ⟨w.heap.size, 2, none⟩)) ?_ ⟨_, rfl, rfl, Below.refl _ _, hG⟩
                simp [slotOf] at h2
                simp [execOp, go_sem, h2]
              · intro a W hG hR hO hp
                have h43 : slotOf a 43 = .pointer (some ⟨w.heap.size, 2, none⟩) := hp.1
                have c0 := keep_cell x2 hG
                refine wp_yields (v := .slice (some ⟨b2, o2, none⟩) p.ws.length p.wc) ?_ ⟨_, rfl, rfl, Below.refl _ _, hG⟩
                simp [slotOf] at h43
                simp [execOp, go_sem, h43, c0]
              · intro a W hG hR hO hp
                have h8 := hO.slot 8 (by kernel_rfl)
                refine wp_yields (v := .int .i64 k) ?_ ⟨_, rfl, rfl, Below.refl _ _, hG⟩
                simp [slotOf] at h8
                simp [execOp, go_sem, h8]
              · intro a W hG hR hO hp
                have h44 : slotOf a 44 = .slice (some ⟨b2, o2, none⟩) p.ws.length p.wc := hp.1
                have h45 : slotOf a 45 = .int .i64 k := hp.2.1
                refine wp_yields (v := .pointer (some ⟨b2, o2 + k * 6, none⟩)) ?_ ⟨_, rfl, rfl, Below.refl _ _, hG⟩
                simp [slotOf] at h44 h45
                simp [execOp, go_sem, h44, h45, hkn]
              · intro a W hG hR hO hp
                have h46 : slotOf a 46 = .pointer (some ⟨b2, o2 + k * 6, none⟩) := hp.1
                refine wp_yields (v := .pointer (some ⟨b2, o2 + k * 6, none⟩)) ?_ ⟨_, rfl, rfl, Below.refl _ _, hG⟩
                simp [slotOf] at h46
                simp [execOp, go_sem, h46]
              · intro a W hG hR hO hp
                have h47 : slotOf a 47 = .pointer (some ⟨b2, o2 + k * 6, none⟩) := hp.1
                have c0 := keep_cell d0 hG
                refine wp_yields (v := vi x.d.price) ?_ ⟨_, rfl, rfl, Below.refl _ _, hG⟩
                simp [slotOf] at h47
                simp [execOp, go_sem, h47, c0]
              · intro a W hG hR hO hp
                have h42 : slotOf a 42 = vi ac := hp.1
                have h48 : slotOf a 48 = vi x.d.price := hp.2.1
                refine wp_yields (v := vi su) ?_ ⟨_, rfl, rfl, Below.refl _ _, hG⟩
                simp [slotOf] at h42 h48
                simp [execOp, go_sem, h42, h48, esu]
              · intro a W hG hR hO hp
                have h7 := hO.slot 7 (by kernel_rfl)
                have h40 : slotOf a 40 = .int .i64 yk := hp.1
                refine wp_yields (v := .pointer (some ⟨ab, yk, none⟩)) ?_ ⟨_, rfl, rfl, Below.refl _ _, hG⟩
                simp [slotOf] at h7 h40
                simp [execOp, go_sem, h7, h40, hy5]
            · intro W hG hR
              rintro _ rfl _ rfl _ rfl _ rfl _ rfl _ rfl _ rfl _ rfl _ rfl _ rfl _ rfl
              change wpList _ _ _ _ _ _
              simp only [Act.put, List.setIfInBounds_toArray, List.set_cons_zero, List.set_cons_succ, List.drop_succ_cons, List.drop_zero]
              have HB3 := Lib.hid (And.intro (newer_trans HB2.out.1 hG) (And.intro (HB2.out.2.1.below hG HB2.out.2.1.lt) (HB2.out.2.2.below hG HB2.out.2.2.lt)))
              clear hG hR HB2 ca x2 d0
              have ca := HB3.out.2.2.at yk (v := vi (iAt (spK p.pj.works plan k) yk)) (sp5_at hyN)
              have fa := HB3.out.2.2.free yk
              have HB4 := Lib.hid (And.intro (HB3.out.1.setCell (p := ⟨ab, yk, none⟩) (Nat.le_of_lt HAB.out) (vi su)) (And.intro (HB3.out.2.1.far (p := ⟨ab, yk, none⟩) (Nat.ne_of_lt HAB.out) (vi su)) (HB3.out.2.2.set yk (vi su))))
              rw [HSN.out] at HB4
              go_wp2_with fail
              go_roundw
              case rel => exact ⟨k + 1, by omega, by go_num, HB4.out.1, HB4.out.2.1, HB4.out.2.2, HEN.out⟩
              case measure => simp [intOf]; omega
    · obtain rfl : k = plan.length := by omega
      have hkp : ¬ ((plan.length : Int) < plan.length) := by omega
      have HOA : Hid ((plan.zip p.pj.works).all (okS p.vs) = true) := Lib.hid (all_early (by rw [HZL.out]; exact HE.out))
      obtain ⟨SL, hSL⟩ : ∃ SL, SL = spK p.pj.works plan plan.length := ⟨_, rfl⟩
      have HSB : Hid (∀ z ∈ SL, 0 ≤ z ∧ z ≤ 8000000) := Lib.hid (by rw [hSL]; exact spK_bd hpn HPB.out)
      have HS5 : Hid (SL.length = 5) := Lib.hid (by rw [hSL]; unfold spK; simp)
      rw [← hSL] at hba
      have HRP : Hid (res = paidB p.ps SL) := Lib.hid (by
        rw [HRA.out]
        unfold allowB spL
        rw [show (plan.zip p.pj.works).all (okS p.pj.villages) = true from HOA.out, ← hSL]
        rfl)
      have HPD := Lib.hid (fun V (hV : newer w V) => paid_any p SL V (HOK.out.next hV) (by have h1 := HPO.out.pn; have h2 := HPO.out.years; omega) HS5.out (fun z hz => by have := HSB.out z hz; omega) (fun z hz => by have := HPO.out.ps z hz; omega) hpc)
      rw [← HRP.out] at HPD
      have x0 := hbx.at 0 (v := vi p.years) rfl
      have x1 := hbx.at 1 (v := vi p.slopes) rfl
      have x2 := hbx.at 2 (v := .slice p.wa p.ws.length p.wc) rfl
      have x3 := hbx.at 3 (v := .slice p.na p.ns.length p.nc) rfl
      have x4 := hbx.at 4 (v := .slice p.va p.vs.length p.vc) rfl
      have x5 := hbx.at 5 (v := .slice p.pa p.ps.length p.pc) rfl
      have a0 := hba.at 0 (v := vi (iAt SL 0)) rfl
      have a1 := hba.at 1 (v := vi (iAt SL 1)) rfl
      have a2 := hba.at 2 (v := vi (iAt SL 2)) rfl
      have a3 := hba.at 3 (v := vi (iAt SL 3)) rfl
      have a4 := hba.at 4 (v := vi (iAt SL 4)) rfl
      have HN := Lib.hid hbw
      clear hbw hbx hba hSL
      go_wp2_with fail
      refine (HPD.out _ HN.out).mono ?_
      rintro e w9 ⟨rfl, hb⟩
      have HN2 := Lib.hid (newer_trans HN.out hb)
      clear hb
      go_wp2_with fail
      go_ret
      exact ⟨rfl, HN2.out⟩
end Go.Proofs.Ytpnpnfjhjjdmgaa
