/- Whether shares prove a bound, by the reference. -/
import Derived.Test.YtpnpnfjhjjdmgaaAD
namespace Go.Proofs.Ytpnpnfjhjjdmgaa
open Go.RowKit Go.Deep

/-- Do shares prove a bound of a valid project? -/
def provesB (q : Pj) (sh : List Int) (bound : Int) : Bool :=
  decide (sh.length = q.needs.length) && sh.all (fun s => inB s 0 1000000000) && q.works.all (workOk q sh) && (decide (dueK q.needs sh q.needs.length ≤ 1000 * bound) && decide (1000 * (bound - 1) < dueK q.needs sh q.needs.length))
theorem boundB_is (q : Pj) (sh : List Int) (bound : Int) : boundB q sh bound = (decide (faultN q = 0) && provesB q sh bound) := by
  unfold boundB provesB
  rw [show decide (bound = (dueK q.needs sh q.needs.length + 999) / 1000) = (decide (dueK q.needs sh q.needs.length ≤ 1000 * bound) && decide (1000 * (bound - 1) < dueK q.needs sh q.needs.length)) by
    rw [Bool.eq_iff_iff]
    simp only [Bool.and_eq_true, decide_eq_true_eq]
    omega]
  simp only [Bool.and_assoc]
set_option maxRecDepth 100000 in
set_option maxHeartbeats 8000000 in
theorem refProves (p : Pm) (sh : List Int) (A : Option Addr) (sc : Nat) (bound : Int) (w : World) (hok : PmOk p w) (hpo : PjOk p) (hl30 : sh.length ≤ 30) (hr : Row intL 1 w w.heap.size A sh) (hbd : -1000000000000 ≤ bound ∧ bound ≤ 1000000000000) :
    Calls Try.prog 32 #[pmV p, .slice A sh.length sc, vi bound] w fun e w' => e = .returned (.bool (provesB p.pj sh bound)) ∧ newer w w' := by
  have hbx := Whole.made w 27 (pmC p)
  have hnw := newer_allocH w (.cells (pmC p) 27)
  have HOK := Lib.hid hok
  have HR := Lib.hid hr
  have HPO := Lib.hid hpo
  have HL30 := Lib.hid hl30
  have HBND := Lib.hid hbd
  obtain ⟨res, hres⟩ : ∃ res, res = provesB p.pj sh bound := ⟨_, rfl⟩
  have HRS := Lib.hid hres
  rw [← hres]
  have HRW : Hid (p.ws.all (fun x => workOk p.pj sh x.d) = false → res = false) := Lib.hid (fun h => by
    rw [HRS.out]
    unfold provesB
    rw [show p.pj.works = p.ws.map (·.d) from rfl, all_map]
    rw [show p.ws.all (fun x => workOk p.pj sh x.d) = false from h]
    simp)
  have x3 := hbx.at 3 (v := .slice p.na p.ns.length p.nc) rfl
  have H0 := Lib.hid (And.intro hnw hbx)
  clear hnw hbx hok hr hpo hl30 hbd hres
  by_cases hln : sh.length = p.ns.length
  case neg =>
    have hne : ((sh.length : Int) != p.ns.length) = true := by rw [bne_iff_ne]; omega
    have HRF : Hid (res = false) := Lib.hid (by
      rw [HRS.out]
      unfold provesB
      rw [show p.pj.needs = p.ns from rfl, decide_eq_false hln]
      rfl)
    clear hln
    go_enter Try.func32, Try.ntmps32
    go_wp2_with fail
    go_ret
    exact ⟨by rw [HRF.out] <;> rfl, H0.out.1⟩
  have hne0 : ((sh.length : Int) != p.ns.length) = false := by rw [bne_eq_false_iff_eq]; omega
  have HLN := Lib.hid hln
  clear hln
  go_enter Try.func32, Try.ntmps32
  go_wp2_with fail
  clear x3 hne0
  obtain ⟨aa, haa⟩ : ∃ aa, aa = A := ⟨_, rfl⟩
  rw [← haa]
  have HAA := Lib.hid haa
  clear haa
  go_loopw [7, 8] (fun s7 s8 wr => ∃ k : Nat, k ≤ sh.length ∧ s8 = .int .i64 k ∧ s7 = vi (dueK p.ns sh k) ∧ newer w wr ∧ Whole wr w.heap.size 27 (pmC p) ∧ early (fun s => !inB s 0 1000000000) sh k ∧ 0 ≤ dueK p.ns sh k ∧ dueK p.ns sh k ≤ (k : Int) * 10000000000000) (fun _ s8 _ => sh.length - (intOf s8).toNat)
  case atStart => exact ⟨0, Nat.zero_le _, rfl, rfl, H0.out.1, H0.out.2, early_zero _ _, Int.le_refl _, by simp [dueK]⟩
  case round =>
    obtain ⟨k, hk, rfl, rfl, hbw, hbx, he, hq0, hq1⟩ := hrel
    clear H0
    have HE := Lib.hid he
    have x3 := hbx.at 3 (v := .slice p.na p.ns.length p.nc) rfl
    clear he
    by_cases hlt : k < sh.length
    · have hlen := HLN.out
      have hkS : (k : Int) < sh.length := by omega
      have hkn : (k : Int) < p.ns.length := by omega
      obtain ⟨n, hn⟩ := get_of_lt (l := p.ns) (k := k) (by omega)
      obtain ⟨sv, hsv⟩ := get_of_lt hlt
      obtain ⟨b3, o3, e3, _, cs⟩ := row1 ((HR.out.below hbw).more hbw.size) hsv
      have e5 := HAA.out.trans e3
      clear e3 HAA
      subst e5
      cases qs : inB sv 0 1000000000
      case false =>
        have HRF : Hid (res = false) := Lib.hid (by
          rw [HRS.out]
          unfold provesB
          rw [all_bad (p := fun s => inB s 0 1000000000) hsv qs]
          simp)
        have HNN := Lib.hid hbw
        clear hbw hbx hn hsv x3 hq0 hq1 hlen
        go_wp2_with (go_at_call 24; refine (in_any _ _ _ _).mono ?_; rintro e w' ⟨rfl, rfl⟩)
        go_ret
        exact ⟨by rw [HRF.out] <;> rfl, HNN.out⟩
      have hnd := HPO.out.ns n (List.mem_of_getElem? hn)
      have hsb := qs
      simp only [ndB, inB, Bool.and_eq_true, decide_eq_true_eq] at hnd hsb
      have hl30 := HL30.out
      obtain ⟨ml, hml⟩ : ∃ ml, ml = sv * n.due := ⟨_, rfl⟩
      obtain ⟨ac, hac⟩ : ∃ ac, ac = dueK p.ns sh k := ⟨_, rfl⟩
      obtain ⟨su, hsu⟩ : ∃ su, su = ac + ml := ⟨_, rfl⟩
      have hnx : dueK p.ns sh (k + 1) = su := by rw [dueK_at hn, iAt_of hsv, hsu, hac, hml]
      have hmlb := mulB hsb.1 hsb.2 (show 0 ≤ n.due by omega) hnd.2.2
      rw [← hml] at hmlb
      rw [← hac] at hq0 hq1 ⊢
      have eml : IntKind.i64.wrap (sv * n.due) = ml := by rw [hml]; exact IntWalk.i64_in _ (by omega)
      have esu : IntKind.i64.wrap (ac + ml) = su := by rw [hsu]; exact IntWalk.i64_in _ (by omega)
      have HNX : Hid (dueK p.ns sh (k + 1) = su ∧ 0 ≤ su ∧ su ≤ ((k + 1 : Nat) : Int) * 10000000000000) := Lib.hid ⟨hnx, by omega, by omega⟩
      have HEN := Lib.hid (early_succ HE.out hsv (show (!inB sv 0 1000000000) = false by rw [qs]; rfl))
      obtain ⟨b2, o2, e2, _, _, _, c2⟩ := row3 (HOK.out.next hbw).ns hn
      rw [e2] at x3
      have HB := Lib.hid (And.intro hbw hbx)
      clear hbw hbx hn hsv hnd hsb hl30 hml hac hsu hnx hmlb hq0 hq1 hlen e2
      go_upto_region 9 with (go_at_call 24; refine (in_any _ _ _ _).mono ?_; rintro e w' ⟨rfl, rfl⟩; rw [qs])
      clear qs
      refine wp_words (by kernel_rfl) (region_told 13 (by kernel_rfl) (by kernel_rfl) (fun W => Below wr.heap.size wr W) newer (pickD [vIs (vi ac), vIs (.slice (some ⟨b3, o3, none⟩) sh.length sc), vIs (.int .i64 k), vIs (.pointer (some ⟨b3, o3 + k, none⟩)), vIs (vi sv), vIs (.pointer (some ⟨w.heap.size, 3, none⟩)), vIs (.slice (some ⟨b2, o2, none⟩) p.ns.length p.nc), vIs (.int .i64 k), vIs (.pointer (some ⟨b2, o2 + k * 3, none⟩)), vIs (.pointer (some ⟨b2, o2 + k * 3 + 2, none⟩)), vIs (vi n.due), vIs (vi ml), vIs (vi su)]) (fun h k => newer_trans h k) (pickD_stable _ ⟨vIs_st, vIs_st, vIs_st, vIs_st, vIs_st, vIs_st, vIs_st, vIs_st, vIs_st, vIs_st, vIs_st, vIs_st, vIs_st, trivial⟩) (Below.refl _ wr).drew (Below.refl _ _) ?_ ?_)
      · refine ⟨?_, ?_, ?_, ?_, ?_, ?_, ?_, ?_, ?_, ?_, ?_, ?_, ?_, trivial⟩
        · intro a W hG hR hO hp
          have h7 := hO.slot 7 (by kernel_rfl)
          refine wp_yields (v := vi ac) ?_ ⟨_, rfl, rfl, Below.refl _ _, hG⟩
          simp [slotOf] at h7
          simp [execOp, go_sem, h7]
        · intro a W hG hR hO hp
          have h1 := hO.slot 1 (by kernel_rfl)
          refine wp_yields (v := .slice (some ⟨b3, o3, none⟩) sh.length sc) ?_ ⟨_, rfl, rfl, Below.refl _ _, hG⟩
          simp [slotOf] at h1
          simp [execOp, go_sem, h1]
        · intro a W hG hR hO hp
          have h8 := hO.slot 8 (by kernel_rfl)
          refine wp_yields (v := .int .i64 k) ?_ ⟨_, rfl, rfl, Below.refl _ _, hG⟩
          simp [slotOf] at h8
          simp [execOp, go_sem, h8]
        · intro a W hG hR hO hp
          have h34 : slotOf a 34 = .slice (some ⟨b3, o3, none⟩) sh.length sc := hp.1
          have h35 : slotOf a 35 = .int .i64 k := hp.2.1
          refine wp_yields (v := .pointer (some ⟨b3, o3 + k, none⟩)) ?_ ⟨_, rfl, rfl, Below.refl _ _, hG⟩
          simp [slotOf] at h34 h35
          simp [execOp, go_sem, h34, h35, hkS]
        · intro a W hG hR hO hp
          have h36 : slotOf a 36 = .pointer (some ⟨b3, o3 + k, none⟩) := hp.1
          have c0 := keep_cell cs hG
          refine wp_yields (v := vi sv) ?_ ⟨_, rfl, rfl, Below.refl _ _, hG⟩
          simp [slotOf] at h36
          simp [execOp, go_sem, h36, c0]
        · intro a W hG hR hO hp
          have h3 := hO.slot 3 (by kernel_rfl)
          refine wp_yields (v := .pointer (some ⟨w.heap.size, 3, none⟩)) ?_ ⟨_, rfl, rfl, Below.refl _ _, hG⟩
          simp [slotOf] at h3
          simp [execOp, go_sem, h3]
        · intro a W hG hR hO hp
          have h38 : slotOf a 38 = .pointer (some ⟨w.heap.size, 3, none⟩) := hp.1
          have c0 := keep_cell x3 hG
          refine wp_yields (v := .slice (some ⟨b2, o2, none⟩) p.ns.length p.nc) ?_ ⟨_, rfl, rfl, Below.refl _ _, hG⟩
          simp [slotOf] at h38
          simp [execOp, go_sem, h38, c0]
        · intro a W hG hR hO hp
          have h8 := hO.slot 8 (by kernel_rfl)
          refine wp_yields (v := .int .i64 k) ?_ ⟨_, rfl, rfl, Below.refl _ _, hG⟩
          simp [slotOf] at h8
          simp [execOp, go_sem, h8]
        · intro a W hG hR hO hp
          have h39 : slotOf a 39 = .slice (some ⟨b2, o2, none⟩) p.ns.length p.nc := hp.1
          have h40 : slotOf a 40 = .int .i64 k := hp.2.1
          refine wp_yields (v := .pointer (some ⟨b2, o2 + k * 3, none⟩)) ?_ ⟨_, rfl, rfl, Below.refl _ _, hG⟩
          simp [slotOf] at h39 h40
          simp [execOp, go_sem, h39, h40, hkn]
        · intro a W hG hR hO hp
          have h41 : slotOf a 41 = .pointer (some ⟨b2, o2 + k * 3, none⟩) := hp.1
          refine wp_yields (v := .pointer (some ⟨b2, o2 + k * 3 + 2, none⟩)) ?_ ⟨_, rfl, rfl, Below.refl _ _, hG⟩
          simp [slotOf] at h41
          simp [execOp, go_sem, h41]
        · intro a W hG hR hO hp
          have h42 : slotOf a 42 = .pointer (some ⟨b2, o2 + k * 3 + 2, none⟩) := hp.1
          have c0 := keep_cell c2 hG
          refine wp_yields (v := vi n.due) ?_ ⟨_, rfl, rfl, Below.refl _ _, hG⟩
          simp [slotOf] at h42
          simp [execOp, go_sem, h42, c0]
        · intro a W hG hR hO hp
          have h37 : slotOf a 37 = vi sv := hp.1
          have h43 : slotOf a 43 = vi n.due := hp.2.1
          refine wp_yields (v := vi ml) ?_ ⟨_, rfl, rfl, Below.refl _ _, hG⟩
          simp [slotOf] at h37 h43
          simp [execOp, go_sem, h37, h43, eml]
        · intro a W hG hR hO hp
          have h33 : slotOf a 33 = vi ac := hp.1
          have h44 : slotOf a 44 = vi ml := hp.2.1
          refine wp_yields (v := vi su) ?_ ⟨_, rfl, rfl, Below.refl _ _, hG⟩
          simp [slotOf] at h33 h44
          simp [execOp, go_sem, h33, h44, esu]
      · intro W hG hR
        rintro _ rfl _ rfl _ rfl _ rfl _ rfl _ rfl _ rfl _ rfl _ rfl _ rfl _ rfl _ rfl _ rfl
        change wpList _ _ _ _ _ _
        simp only [Act.put, List.setIfInBounds_toArray, List.set_cons_zero, List.set_cons_succ, List.drop_succ_cons, List.drop_zero]
        have HB2 := Lib.hid (And.intro (newer_trans HB.out.1 hG) (HB.out.2.below hG HB.out.2.lt))
        clear hG hR HB x3 c2 cs
        have hl30 := HL30.out
        go_wp2_with fail
        go_roundw
        case rel => exact ⟨k + 1, by omega, by go_num, by rw [HNX.out.1], HB2.out.1, HB2.out.2, HEN.out, by rw [HNX.out.1]; exact HNX.out.2.1, by rw [HNX.out.1]; exact HNX.out.2.2⟩
        case measure => simp [intOf]; omega
    · obtain rfl : k = sh.length := by omega
      have hkS : ¬ ((sh.length : Int) < sh.length) := by omega
      have HSA := Lib.hid (all_early HE.out)
      have HSB : Hid (∀ s ∈ sh, 0 ≤ s ∧ s ≤ 1000000000) := Lib.hid (fun s hs => by
        have := List.all_eq_true.1 HSA.out s hs
        simp only [inB, Bool.and_eq_true, decide_eq_true_eq] at this
        exact this)
      have HBD : Hid (∀ x ∈ p.ws, ∀ y k, 0 ≤ worthK x.d y p.ns sh k ∧ worthK x.d y p.ns sh k ≤ (k : Int) * 10000000000000) := Lib.hid (fun x hx y k => by
        have hw := wdB_parts (HPO.out.ws x hx)
        exact worth_bd hw.2.2.2.2.2 hw.2.2.1.1 (fun n hn => by
          have := HPO.out.ns n hn
          simp only [ndB, inB, Bool.and_eq_true, decide_eq_true_eq] at this
          omega) HSB.out k)
      obtain ⟨D, hD⟩ : ∃ D, D = dueK p.ns sh sh.length := ⟨_, rfl⟩
      rw [← hD] at hq0 hq1 ⊢
      have HQ := Lib.hid (And.intro hD (And.intro hq0 hq1))
      have H0 := Lib.hid (And.intro hbw hbx)
      clear hbw hbx HE hq0 hq1 hD x3 hk hlt
      go_wp2_with fail
      clear hkS
      go_loopw [9] (fun s9 wr => ∃ k : Nat, k ≤ p.ws.length ∧ s9 = .int .i64 k ∧ newer w wr ∧ Whole wr w.heap.size 27 (pmC p) ∧ early (fun x => !workOk p.pj sh x.d) p.ws k) (fun s9 _ => p.ws.length - (intOf s9).toNat)
      case atStart => exact ⟨0, Nat.zero_le _, rfl, H0.out.1, H0.out.2, early_zero _ _⟩
      case round =>
        obtain ⟨k, hk, rfl, hbw, hbx, he⟩ := hrel
        clear H0
        have HE := Lib.hid he
        have x2 := hbx.at 2 (v := .slice p.wa p.ws.length p.wc) rfl
        clear he
        obtain ⟨wo, hwo⟩ : ∃ wo : World, wo = wr := ⟨_, rfl⟩
        rw [← hwo] at hbw hbx x2 ⊢
        clear hwo wr
        by_cases hlt : k < p.ws.length
        · have hkn : (k : Int) < p.ws.length := by omega
          obtain ⟨x, hx⟩ := get_of_lt hlt
          have HWB := Lib.hid (wdB_parts (HPO.out.ws x (List.mem_of_getElem? hx)))
          obtain ⟨b2, o2, e2, _, d0, d1, d2, d3, d4, d5⟩ := row6 (HOK.out.next hbw).ws hx
          rw [e2] at x2
          have HB0 := Lib.hid (And.intro hbw hbx)
          have HX := Lib.hid hx
          clear hbw hbx hx e2
          go_upto_region 14 with fail
          refine genQ (fun X => newer wo X ∧ Whole X wo.heap.size 63 (wkC x)) ⟨newer_allocH _ _, Whole.made _ _ _⟩ ?_
          obtain ⟨xb, hxb⟩ : ∃ xb, xb = wo.heap.size := ⟨_, rfl⟩
          rw [← hxb]
          clear hxb d0 d1 d2 d3 d4 d5 x2
          rintro wv ⟨hn, hwx⟩
          have HB := Lib.hid (And.intro (newer_trans HB0.out.1 hn) (And.intro (HB0.out.2.below hn HB0.out.2.lt) hwx))
          have d0 := hwx.at 0 (v := vi x.d.price) rfl
          have d1 := hwx.at 1 (v := vi x.d.first) rfl
          have d2 := hwx.at 2 (v := vi x.d.last) rfl
          have d3 := hwx.at 3 (v := vi x.d.age) rfl
          have d4 := hwx.at 4 (v := vi x.d.village) rfl
          have d5 := hwx.at 5 (v := .slice x.a x.d.adds.length x.cp) rfl
          have x0 := HB.out.2.1.at 0 (v := vi p.years) rfl
          have x1 := HB.out.2.1.at 1 (v := vi p.slopes) rfl
          have x2 := HB.out.2.1.at 2 (v := .slice p.wa p.ws.length p.wc) rfl
          have x3 := HB.out.2.1.at 3 (v := .slice p.na p.ns.length p.nc) rfl
          have x4 := HB.out.2.1.at 4 (v := .slice p.va p.vs.length p.vc) rfl
          have x5 := HB.out.2.1.at 5 (v := .slice p.pa p.ps.length p.pc) rfl
          clear hn hwx HB0
          by_cases hvm : x.d.village = -1
          · have i1 : ¬ (0 ≤ x.d.village) := by omega
            have HWK : Hid (∀ b, (List.range (yearsN x.d)).all (yearOk p.pj sh x.d) = b → workOk p.pj sh x.d = b) := Lib.hid (fun b hb => by
              unfold workOk agreeB
              rw [hb, decide_eq_true hvm]
              simp)
            clear hvm
            go_wp2_with fail
            clear d0 d1 d2 d3 d4 d5 x0 x1 x2 x3 x4 x5 i1
            go_loopw [11] (fun s11 wr => ∃ j : Nat, j ≤ yearsN x.d ∧ s11 = vi (x.d.first + (j : Int)) ∧ newer w wr ∧ Whole wr w.heap.size 27 (pmC p) ∧ Whole wr xb 63 (wkC x) ∧ (List.range j).all (yearOk p.pj sh x.d) = true) (fun s11 _ => (x.d.last + 1 - intOf s11).toNat)
            case atStart => exact ⟨0, Nat.zero_le _, by simp, HB.out.1, HB.out.2.1, HB.out.2.2, rfl⟩
            case round =>
              obtain ⟨j, hj, rfl, hbw, hbx, hwx, he⟩ := hrel
              clear HB
              have HE2 := Lib.hid he
              clear he
              obtain ⟨w3, hw3⟩ : ∃ w3 : World, w3 = wr := ⟨_, rfl⟩
              rw [← hw3] at hbw hbx hwx ⊢
              clear hw3 wr
              have d2 := hwx.at 2 (v := vi x.d.last) rfl
              obtain ⟨y, hy⟩ : ∃ y, y = x.d.first + (j : Int) := ⟨_, rfl⟩
              rw [← hy]
              have hyn : yearsN x.d = (x.d.last + 1 - x.d.first).toNat := rfl
              have HB := Lib.hid (And.intro hbw (And.intro hbx hwx))
              clear hbw hbx hwx
              have hwf := HWB.out.2.1
              have hpy := HPO.out.years
              by_cases hlt3 : j < yearsN x.d
              · have hyl : y ≤ x.d.last := by omega
                have HY := Lib.hid (And.intro hy (And.intro hyn (And.intro hlt3 hyl)))
                have HYB : Hid (0 ≤ y ∧ y ≤ 4) := Lib.hid (by omega)
                clear hwf hpy hy hyn hlt3
                go_wp2_with fail
                clear d2 hyl
                go_loopw [12, 13] (fun s12 s13 wr => ∃ i : Nat, i ≤ sh.length ∧ s13 = .int .i64 i ∧ s12 = vi (worthK x.d y p.ns sh i) ∧ newer w wr ∧ Whole wr w.heap.size 27 (pmC p) ∧ Whole wr xb 63 (wkC x)) (fun _ s13 _ => sh.length - (intOf s13).toNat)
                case atStart => exact ⟨0, Nat.zero_le _, rfl, rfl, HB.out.1, HB.out.2.1, HB.out.2.2⟩
                case round =>
                  obtain ⟨i, hi, rfl, rfl, hbw, hbx, hwx⟩ := hrel
                  clear HB
                  by_cases hlt4 : i < sh.length
                  · have hlen := HLN.out
                    have hiS : (i : Int) < sh.length := by omega
                    have hin : (i : Int) < p.ns.length := by omega
                    obtain ⟨n, hn⟩ := get_of_lt (l := p.ns) (k := i) (by omega)
                    obtain ⟨sv, hsv⟩ := get_of_lt hlt4
                    have hnd := HPO.out.ns n (List.mem_of_getElem? hn)
                    simp only [ndB, inB, Bool.and_eq_true, decide_eq_true_eq] at hnd
                    have hyr := HPO.out.years
                    obtain ⟨sl, hsl⟩ : ∃ sl : Nat, n.slope = sl := ⟨n.slope.toNat, by omega⟩
                    obtain ⟨r, hrr⟩ := get_of_lt (l := x.d.adds) (k := sl) (by have := HWB.out.2.2.2.2.1; omega)
                    have hsa : (sl : Int) < x.d.adds.length := by have := HWB.out.2.2.2.2.1; omega
                    have hbr := endR_bd (hi := false) (HWB.out.2.2.2.2.2 r (List.mem_of_getElem? hrr))
                    have hadb := addsN_bd (x := x.d) (built := y) (year := n.year) hbr.1 hbr.2 HWB.out.2.2.1.1
                    have hyb := HYB.out
                    have HAD : Hid (∀ V, Calls Try.prog 58 #[wkV x, vi y, vi n.year, vi r.lo] V fun e w' => e = .returned (vi (addsN x.d y n.year (endR false r))) ∧ newer V w') := Lib.hid fun V => by
                      rw [← addsR_is (by omega)]
                      exact refAdds x y n.year _ V HWB.out.2.2.1.1 HWB.out.2.2.1.2 hbr.1 hbr.2 (by omega) (by omega) (by omega)
                    obtain ⟨ad, had⟩ : ∃ ad, ad = addsN x.d y n.year (endR false r) := ⟨_, rfl⟩
                    obtain ⟨mi, hmi⟩ : ∃ mi, mi = mnI n.due ad := ⟨_, rfl⟩
                    obtain ⟨ml, hml⟩ : ∃ ml, ml = sv * mi := ⟨_, rfl⟩
                    obtain ⟨ac, hac⟩ : ∃ ac, ac = worthK x.d y p.ns sh i := ⟨_, rfl⟩
                    obtain ⟨su, hsu⟩ : ∃ su, su = ac + ml := ⟨_, rfl⟩
                    have hnx : worthK x.d y p.ns sh (i + 1) = su := by
                      rw [worthK_at hn, iAt_of hsv, show n.slope.toNat = sl by omega, rAt_of hrr, hsu, hac, hml, hmi, had]
                      rfl
                    have hb0 := HBD.out x (List.mem_of_getElem? HX.out) y i
                    have hb1 := HBD.out x (List.mem_of_getElem? HX.out) y (i + 1)
                    rw [hnx] at hb1
                    rw [← hac] at hb0 ⊢
                    rw [← had] at HAD hadb
                    have hmb : 0 ≤ mi ∧ mi ≤ 10000 := by rw [hmi]; unfold mnI; split <;> omega
                    have hsb := HSB.out sv (List.mem_of_getElem? hsv)
                    have hmlb := mulB hsb.1 hsb.2 hmb.1 hmb.2
                    have hl30 := HL30.out
                    have eml : IntKind.i64.wrap (sv * mi) = ml := by rw [hml]; exact IntWalk.i64_in _ (by omega)
                    have esu : IntKind.i64.wrap (ac + ml) = su := by rw [hsu]; exact IntWalk.i64_in _ (by omega)
                    have HMI := Lib.hid hmi
                    have HNX := Lib.hid hnx
                    have x3 := hbx.at 3 (v := .slice p.na p.ns.length p.nc) rfl
                    obtain ⟨b2, o2, e2, _, c0, c1, c2⟩ := row3 (HOK.out.next hbw).ns hn
                    rw [e2] at x3
                    obtain ⟨b3, o3, e3, _, cs0⟩ := row1 ((HR.out.below hbw).more hbw.size) hsv
                    have e5 := HAA.out.trans e3
                    clear e3 HAA
                    subst e5
                    obtain ⟨b4, o4, e4, _, g0, _⟩ := row2 ((HOK.out.next hbw).ad x (List.mem_of_getElem? HX.out)) hrr
                    have HB0 := Lib.hid (And.intro hbw (And.intro hbx (And.intro hwx (And.intro cs0 g0))))
                    have HE4 := Lib.hid e4
                    have HSL := Lib.hid hsl
                    clear hbw hbx hwx hn hsv hnd hyr hrr hbr hadb had hmi hml hac hsu hnx hb0 hb1 hmb hsb hmlb hlen hyb hl30 e2 g0 e4 hsl
                    go_upto_region 23 with fail
                    refine genQ (fun X => newer wr X ∧ Whole X wr.heap.size 60 #[vi n.slope, vi n.year, vi n.due]) ⟨newer_allocH _ _, Whole.made _ _ _⟩ ?_
                    obtain ⟨nb, hnb⟩ : ∃ nb, nb = wr.heap.size := ⟨_, rfl⟩
                    rw [← hnb]
                    clear hnb c0 c1 c2 cs0 x3
                    rintro wv4 ⟨hn, hnx4⟩
                    have y0 := hnx4.at 0 (v := vi n.slope) rfl
                    have y1 := hnx4.at 1 (v := vi n.year) rfl
                    have y2 := hnx4.at 2 (v := vi n.due) rfl
                    rw [HSL.out] at y0
                    have hbx := HB0.out.2.1.below hn HB0.out.2.1.lt
                    have hwx := HB0.out.2.2.1.below hn HB0.out.2.2.1.lt
                    have cs := keep_cell HB0.out.2.2.2.1 hn
                    have c0 := keep_cell HB0.out.2.2.2.2 hn
                    have d0 := hwx.at 0 (v := vi x.d.price) rfl
                    have d1 := hwx.at 1 (v := vi x.d.first) rfl
                    have d2 := hwx.at 2 (v := vi x.d.last) rfl
                    have d3 := hwx.at 3 (v := vi x.d.age) rfl
                    have d4 := hwx.at 4 (v := vi x.d.village) rfl
                    have d5 := hwx.at 5 (v := .slice x.a x.d.adds.length x.cp) rfl
                    have HD5 := Lib.hid d5
                    rw [HE4.out] at d5
                    have HB := Lib.hid (And.intro hn (And.intro hbx hwx))
                    clear hn hnx4 hbx hwx
                    refine wp_words (by kernel_rfl) (region_told 22 (by kernel_rfl) (by kernel_rfl) (fun W => Below wv4.heap.size wv4 W) newer (pickD [vIs (vi ac), vIs (.slice (some ⟨b3, o3, none⟩) sh.length sc), vIs (.int .i64 i), vIs (.pointer (some ⟨b3, o3 + i, none⟩)), vIs (vi sv), vIs (.pointer (some ⟨nb, 2, none⟩)), vIs (vi n.due), vIs (wkV x), vIs (vi y), vIs (.pointer (some ⟨nb, 1, none⟩)), vIs (vi n.year), vIs (.pointer (some ⟨xb, 5, none⟩)), vIs (.slice (some ⟨b4, o4, none⟩) x.d.adds.length x.cp), vIs (.pointer (some ⟨nb, 0, none⟩)), vIs (.int .i64 sl), vIs (.pointer (some ⟨b4, o4 + sl * 2, none⟩)), vIs (.pointer (some ⟨b4, o4 + sl * 2, none⟩)), vIs (vi r.lo), vIs (vi ad), vIs (vi mi), vIs (vi ml), vIs (vi su)]) (fun h k => newer_trans h k) (pickD_stable _ ⟨vIs_st, vIs_st, vIs_st, vIs_st, vIs_st, vIs_st, vIs_st, vIs_st, vIs_st, vIs_st, vIs_st, vIs_st, vIs_st, vIs_st, vIs_st, vIs_st, vIs_st, vIs_st, vIs_st, vIs_st, vIs_st, vIs_st, trivial⟩) (Below.refl _ wv4).drew (Below.refl _ _) ?_ ?_)
                    · refine ⟨?_, ?_, ?_, ?_, ?_, ?_, ?_, ?_, ?_, ?_, ?_, ?_, ?_, ?_, ?_, ?_, ?_, ?_, ?_, ?_, ?_, ?_, trivial⟩
                      · intro a W hG hR hO hp
                        have h12 := hO.slot 12 (by kernel_rfl)
                        refine wp_yields (v := vi ac) ?_ ⟨_, rfl, rfl, Below.refl _ _, hG⟩
                        simp [slotOf] at h12
                        simp [execOp, go_sem, h12]
                      · intro a W hG hR hO hp
                        have h1 := hO.slot 1 (by kernel_rfl)
                        refine wp_yields (v := .slice (some ⟨b3, o3, none⟩) sh.length sc) ?_ ⟨_, rfl, rfl, Below.refl _ _, hG⟩
                        simp [slotOf] at h1
                        simp [execOp, go_sem, h1]
                      · intro a W hG hR hO hp
                        have h13 := hO.slot 13 (by kernel_rfl)
                        refine wp_yields (v := .int .i64 i) ?_ ⟨_, rfl, rfl, Below.refl _ _, hG⟩
                        simp [slotOf] at h13
                        simp [execOp, go_sem, h13]
                      · intro a W hG hR hO hp
                        have h90 : slotOf a 90 = .slice (some ⟨b3, o3, none⟩) sh.length sc := hp.1
                        have h91 : slotOf a 91 = .int .i64 i := hp.2.1
                        refine wp_yields (v := .pointer (some ⟨b3, o3 + i, none⟩)) ?_ ⟨_, rfl, rfl, Below.refl _ _, hG⟩
                        simp [slotOf] at h90 h91
                        simp [execOp, go_sem, h90, h91, hiS]
                      · intro a W hG hR hO hp
                        have h92 : slotOf a 92 = .pointer (some ⟨b3, o3 + i, none⟩) := hp.1
                        have c0 := keep_cell cs hG
                        refine wp_yields (v := vi sv) ?_ ⟨_, rfl, rfl, Below.refl _ _, hG⟩
                        simp [slotOf] at h92
                        simp [execOp, go_sem, h92, c0]
                      · intro a W hG hR hO hp
                        have h14 := hO.slot 14 (by kernel_rfl)
                        refine wp_yields (v := .pointer (some ⟨nb, 2, none⟩)) ?_ ⟨_, rfl, rfl, Below.refl _ _, hG⟩
                        simp [slotOf] at h14
                        simp [execOp, go_sem, h14]
                      · intro a W hG hR hO hp
                        have h94 : slotOf a 94 = .pointer (some ⟨nb, 2, none⟩) := hp.1
                        have c0 := keep_cell y2 hG
                        refine wp_yields (v := vi n.due) ?_ ⟨_, rfl, rfl, Below.refl _ _, hG⟩
                        simp [slotOf] at h94
                        simp [execOp, go_sem, h94, c0]
                      · intro a W hG hR hO hp
                        have h10 := hO.slot 10 (by kernel_rfl)
                        have c0 := keep_cell d0 hG
                        have c1 := keep_cell d1 hG
                        have c2 := keep_cell d2 hG
                        have c3 := keep_cell d3 hG
                        have c4 := keep_cell d4 hG
                        have c5 := keep_cell HD5.out hG
                        refine wp_yields (v := wkV x) ?_ ⟨_, rfl, rfl, Below.refl _ _, hG⟩
                        simp [slotOf] at h10
                        simp [execOp, go_sem, h10, c0, c1, c2, c3, c4, c5]
                      · intro a W hG hR hO hp
                        have h11 := hO.slot 11 (by kernel_rfl)
                        refine wp_yields (v := vi y) ?_ ⟨_, rfl, rfl, Below.refl _ _, hG⟩
                        simp [slotOf] at h11
                        simp [execOp, go_sem, h11]
                      · intro a W hG hR hO hp
                        have h14 := hO.slot 14 (by kernel_rfl)
                        refine wp_yields (v := .pointer (some ⟨nb, 1, none⟩)) ?_ ⟨_, rfl, rfl, Below.refl _ _, hG⟩
                        simp [slotOf] at h14
                        simp [execOp, go_sem, h14]
                      · intro a W hG hR hO hp
                        have h98 : slotOf a 98 = .pointer (some ⟨nb, 1, none⟩) := hp.1
                        have c0 := keep_cell y1 hG
                        refine wp_yields (v := vi n.year) ?_ ⟨_, rfl, rfl, Below.refl _ _, hG⟩
                        simp [slotOf] at h98
                        simp [execOp, go_sem, h98, c0]
                      · intro a W hG hR hO hp
                        have h10 := hO.slot 10 (by kernel_rfl)
                        refine wp_yields (v := .pointer (some ⟨xb, 5, none⟩)) ?_ ⟨_, rfl, rfl, Below.refl _ _, hG⟩
                        simp [slotOf] at h10
                        simp [execOp, go_sem, h10]
                      · intro a W hG hR hO hp
                        have h100 : slotOf a 100 = .pointer (some ⟨xb, 5, none⟩) := hp.1
                        have c0 := keep_cell d5 hG
                        refine wp_yields (v := .slice (some ⟨b4, o4, none⟩) x.d.adds.length x.cp) ?_ ⟨_, rfl, rfl, Below.refl _ _, hG⟩
                        simp [slotOf] at h100
                        simp [execOp, go_sem, h100, c0]
                      · intro a W hG hR hO hp
                        have h14 := hO.slot 14 (by kernel_rfl)
                        refine wp_yields (v := .pointer (some ⟨nb, 0, none⟩)) ?_ ⟨_, rfl, rfl, Below.refl _ _, hG⟩
                        simp [slotOf] at h14
                        simp [execOp, go_sem, h14]
                      · intro a W hG hR hO hp
                        have h102 : slotOf a 102 = .pointer (some ⟨nb, 0, none⟩) := hp.1
                        have c0 := keep_cell y0 hG
                        refine wp_yields (v := .int .i64 sl) ?_ ⟨_, rfl, rfl, Below.refl _ _, hG⟩
                        simp [slotOf] at h102
                        simp [execOp, go_sem, h102, c0]
                      · intro a W hG hR hO hp
                        have h101 : slotOf a 101 = .slice (some ⟨b4, o4, none⟩) x.d.adds.length x.cp := hp.1
                        have h103 : slotOf a 103 = .int .i64 sl := hp.2.1
                        refine wp_yields (v := .pointer (some ⟨b4, o4 + sl * 2, none⟩)) ?_ ⟨_, rfl, rfl, Below.refl _ _, hG⟩
                        simp [slotOf] at h101 h103
                        simp [execOp, go_sem, h101, h103, hsa]
                      · intro a W hG hR hO hp
                        have h104 : slotOf a 104 = .pointer (some ⟨b4, o4 + sl * 2, none⟩) := hp.1
                        refine wp_yields (v := .pointer (some ⟨b4, o4 + sl * 2, none⟩)) ?_ ⟨_, rfl, rfl, Below.refl _ _, hG⟩
                        simp [slotOf] at h104
                        simp [execOp, go_sem, h104]
                      · intro a W hG hR hO hp
                        have h105 : slotOf a 105 = .pointer (some ⟨b4, o4 + sl * 2, none⟩) := hp.1
                        have c0 := keep_cell c0 hG
                        refine wp_yields (v := vi r.lo) ?_ ⟨_, rfl, rfl, Below.refl _ _, hG⟩
                        simp [slotOf] at h105
                        simp [execOp, go_sem, h105, c0]
                      · intro a W hG hR hO hp
                        have h96 : slotOf a 96 = wkV x := hp.1
                        have h97 : slotOf a 97 = vi y := hp.2.1
                        have h99 : slotOf a 99 = vi n.year := hp.2.2.1
                        have h106 : slotOf a 106 = vi r.lo := hp.2.2.2.1
                        refine wp_enters (f := 58) (args := #[wkV x, vi y, vi n.year, vi r.lo]) ?_ ((HAD.out W).mono ?_)
                        · simp [slotOf] at h96 h97 h99 h106
                          simp [go_sem, h96, h97, h99, h106]
                        · rintro e w' ⟨rfl, hb⟩
                          exact ⟨_, rfl, _, rfl, rfl, hb, below_next hG hb⟩
                      · intro a W hG hR hO hp
                        have h95 : slotOf a 95 = vi n.due := hp.1
                        have h107 : slotOf a 107 = vi ad := hp.2.1
                        refine wp_yields (v := vi mi) ?_ ⟨_, rfl, rfl, Below.refl _ _, hG⟩
                        simp [slotOf] at h95 h107
                        simp [go_sem, h95, h107, HMI.out, mnI]
                      · intro a W hG hR hO hp
                        have h93 : slotOf a 93 = vi sv := hp.1
                        have h108 : slotOf a 108 = vi mi := hp.2.1
                        refine wp_yields (v := vi ml) ?_ ⟨_, rfl, rfl, Below.refl _ _, hG⟩
                        simp [slotOf] at h93 h108
                        simp [execOp, go_sem, h93, h108, eml]
                      · intro a W hG hR hO hp
                        have h89 : slotOf a 89 = vi ac := hp.1
                        have h109 : slotOf a 109 = vi ml := hp.2.1
                        refine wp_yields (v := vi su) ?_ ⟨_, rfl, rfl, Below.refl _ _, hG⟩
                        simp [slotOf] at h89 h109
                        simp [execOp, go_sem, h89, h109, esu]
                    · intro W hG hR
                      rintro _ rfl _ rfl _ rfl _ rfl _ rfl _ rfl _ rfl _ rfl _ rfl _ rfl _ rfl _ rfl _ rfl _ rfl _ rfl _ rfl _ rfl _ rfl _ rfl _ rfl _ rfl _ rfl
                      change wpList _ _ _ _ _ _
                      simp only [Act.put, List.setIfInBounds_toArray, List.set_cons_zero, List.set_cons_succ, List.drop_succ_cons, List.drop_zero]
                      have HF := Lib.hid (And.intro (newer_trans HB0.out.1 (newer_trans HB.out.1 hG)) (And.intro (HB.out.2.1.below hG HB.out.2.1.lt) (HB.out.2.2.below hG HB.out.2.2.lt)))
                      clear hG hR HB HB0 y0 y1 y2 cs c0 d0 d1 d2 d3 d4 d5
                      have hl30 := HL30.out
                      go_wp2_with fail
                      go_roundw
                      case rel => exact ⟨i + 1, by omega, by go_num, by rw [HNX.out], HF.out.1, HF.out.2.1, HF.out.2.2⟩
                      case measure => simp [intOf]; omega
                  · obtain rfl : i = sh.length := by omega
                    have hiS : ¬ ((sh.length : Int) < sh.length) := by omega
                    have d0 := hwx.at 0 (v := vi x.d.price) rfl
                    have hwp := HWB.out.1
                    obtain ⟨ac, hac⟩ : ∃ ac, ac = worthK x.d y p.ns sh sh.length := ⟨_, rfl⟩
                    rw [← hac]
                    obtain ⟨tp, htp⟩ : ∃ tp, tp = 1000 * x.d.price := ⟨_, rfl⟩
                    have etp : IntKind.i64.wrap (1000 * x.d.price) = tp := by rw [htp]; exact IntWalk.i64_in _ (by omega)
                    have HYO : Hid (yearOk p.pj sh x.d j = decide (ac ≤ tp)) := Lib.hid (by
                      rw [hac, htp, HY.out.1]
                      unfold yearOk
                      rw [show p.pj.needs = p.ns from rfl, ← HLN.out])
                    have HF := Lib.hid (And.intro hbw (And.intro hbx hwx))
                    clear hbw hbx hwx hac htp hwp
                    by_cases htw : tp < ac
                    · have HBAD := Lib.hid (all_bad (p := fun x : Wk => workOk p.pj sh x.d) HX.out (show workOk p.pj sh x.d = false from HWK.out false (all_bad (k := j) (x := j) (by rw [List.getElem?_range]; exact HY.out.2.2.1) (by rw [HYO.out]; exact decide_eq_false (by omega)))))
                      go_wp2_with fail
                      go_ret
                      exact ⟨by rw [HRW.out HBAD.out] <;> rfl, HF.out.1⟩
                    · have HJN : Hid ((List.range (j + 1)).all (yearOk p.pj sh x.d) = true) := Lib.hid (by
                        rw [List.range_succ, List.all_append, HE2.out, List.all_cons, HYO.out, decide_eq_true (by omega)]
                        rfl)
                      have ey1 : IntKind.i64.wrap (y + 1) = x.d.first + ((j + 1 : Nat) : Int) := by
                        have h1 := HY.out.1
                        have h2 := HYB.out
                        rw [show x.d.first + ((j + 1 : Nat) : Int) = y + 1 by omega]
                        exact IntWalk.i64_in _ (by omega)
                      go_wp2_with fail
                      go_roundw
                      case rel => exact ⟨j + 1, by have := HY.out.2.2.1; omega, rfl, HF.out.1, HF.out.2.1, HF.out.2.2, HJN.out⟩
                      case measure =>
                        have h1 := HY.out.1
                        have h2 := HY.out.2.2.2
                        simp [intOf]
                        omega
              · have hyl : ¬ (y ≤ x.d.last) := by omega
                have HXN := Lib.hid (early_succ HE.out HX.out (show (!workOk p.pj sh x.d) = false by rw [HWK.out true (by rw [show yearsN x.d = j by omega]; exact HE2.out)]; rfl))
                clear hwf hpy hy hyn hlt3
                have hwn := HPO.out.wn
                go_wp2_with fail
                go_roundw
                case rel => exact ⟨k + 1, by omega, by go_num, HB.out.1, HB.out.2.1, HXN.out⟩
                case measure => simp [intOf]; omega
          · have hvb := HWB.out.2.2.2.1
            obtain ⟨vk, hvk⟩ : ∃ vk : Nat, x.d.village = vk := ⟨x.d.village.toNat, by omega⟩
            obtain ⟨b, hb⟩ := get_of_lt (l := p.vs) (k := vk) (by omega)
            have i1 : (vk : Int) < p.vs.length := by omega
            have i0 : (0 : Int) ≤ (vk : Int) := by omega
            obtain ⟨b5, o5, e5, _, v0⟩ := rowB (HOK.out.next HB.out.1).vs hb
            rw [hvk] at d4
            rw [e5] at x4
            have HAG : Hid (agreeB p.pj.villages x.d = b) := Lib.hid (by
              unfold agreeB
              rw [decide_eq_false hvm, Bool.false_or, show p.pj.villages = p.vs from rfl, hvk, Int.toNat_natCast, hb]
              rfl)
            clear hvm hvb hvk hb e5
            cases b with
            | false =>
              have HXN := Lib.hid (early_succ HE.out HX.out (show (!workOk p.pj sh x.d) = false by unfold workOk; rw [HAG.out]; rfl))
              have hwn := HPO.out.wn
              go_wp2_with fail
              go_roundw
              case rel => exact ⟨k + 1, by omega, by go_num, HB.out.1, HB.out.2.1, HXN.out⟩
              case measure => simp [intOf]; omega
            | true =>
              have HWK : Hid (∀ b, (List.range (yearsN x.d)).all (yearOk p.pj sh x.d) = b → workOk p.pj sh x.d = b) := Lib.hid (fun b hb => by
                unfold workOk
                rw [hb, HAG.out]
                simp)
              clear HAG
              go_wp2_with fail
              clear d0 d1 d2 d3 d4 d5 x0 x1 x2 x3 x4 x5 i1
              go_loopw [11] (fun s11 wr => ∃ j : Nat, j ≤ yearsN x.d ∧ s11 = vi (x.d.first + (j : Int)) ∧ newer w wr ∧ Whole wr w.heap.size 27 (pmC p) ∧ Whole wr xb 63 (wkC x) ∧ (List.range j).all (yearOk p.pj sh x.d) = true) (fun s11 _ => (x.d.last + 1 - intOf s11).toNat)
              case atStart => exact ⟨0, Nat.zero_le _, by simp, HB.out.1, HB.out.2.1, HB.out.2.2, rfl⟩
              case round =>
                obtain ⟨j, hj, rfl, hbw, hbx, hwx, he⟩ := hrel
                clear HB
                have HE2 := Lib.hid he
                clear he
                obtain ⟨w3, hw3⟩ : ∃ w3 : World, w3 = wr := ⟨_, rfl⟩
                rw [← hw3] at hbw hbx hwx ⊢
                clear hw3 wr
                have d2 := hwx.at 2 (v := vi x.d.last) rfl
                obtain ⟨y, hy⟩ : ∃ y, y = x.d.first + (j : Int) := ⟨_, rfl⟩
                rw [← hy]
                have hyn : yearsN x.d = (x.d.last + 1 - x.d.first).toNat := rfl
                have HB := Lib.hid (And.intro hbw (And.intro hbx hwx))
                clear hbw hbx hwx
                have hwf := HWB.out.2.1
                have hpy := HPO.out.years
                by_cases hlt3 : j < yearsN x.d
                · have hyl : y ≤ x.d.last := by omega
                  have HY := Lib.hid (And.intro hy (And.intro hyn (And.intro hlt3 hyl)))
                  have HYB : Hid (0 ≤ y ∧ y ≤ 4) := Lib.hid (by omega)
                  clear hwf hpy hy hyn hlt3
                  go_wp2_with fail
                  clear d2 hyl
                  go_loopw [12, 13] (fun s12 s13 wr => ∃ i : Nat, i ≤ sh.length ∧ s13 = .int .i64 i ∧ s12 = vi (worthK x.d y p.ns sh i) ∧ newer w wr ∧ Whole wr w.heap.size 27 (pmC p) ∧ Whole wr xb 63 (wkC x)) (fun _ s13 _ => sh.length - (intOf s13).toNat)
                  case atStart => exact ⟨0, Nat.zero_le _, rfl, rfl, HB.out.1, HB.out.2.1, HB.out.2.2⟩
                  case round =>
                    obtain ⟨i, hi, rfl, rfl, hbw, hbx, hwx⟩ := hrel
                    clear HB
                    by_cases hlt4 : i < sh.length
                    · have hlen := HLN.out
                      have hiS : (i : Int) < sh.length := by omega
                      have hin : (i : Int) < p.ns.length := by omega
                      obtain ⟨n, hn⟩ := get_of_lt (l := p.ns) (k := i) (by omega)
                      obtain ⟨sv, hsv⟩ := get_of_lt hlt4
                      have hnd := HPO.out.ns n (List.mem_of_getElem? hn)
                      simp only [ndB, inB, Bool.and_eq_true, decide_eq_true_eq] at hnd
                      have hyr := HPO.out.years
                      obtain ⟨sl, hsl⟩ : ∃ sl : Nat, n.slope = sl := ⟨n.slope.toNat, by omega⟩
                      obtain ⟨r, hrr⟩ := get_of_lt (l := x.d.adds) (k := sl) (by have := HWB.out.2.2.2.2.1; omega)
                      have hsa : (sl : Int) < x.d.adds.length := by have := HWB.out.2.2.2.2.1; omega
                      have hbr := endR_bd (hi := false) (HWB.out.2.2.2.2.2 r (List.mem_of_getElem? hrr))
                      have hadb := addsN_bd (x := x.d) (built := y) (year := n.year) hbr.1 hbr.2 HWB.out.2.2.1.1
                      have hyb := HYB.out
                      have HAD : Hid (∀ V, Calls Try.prog 58 #[wkV x, vi y, vi n.year, vi r.lo] V fun e w' => e = .returned (vi (addsN x.d y n.year (endR false r))) ∧ newer V w') := Lib.hid fun V => by
                        rw [← addsR_is (by omega)]
                        exact refAdds x y n.year _ V HWB.out.2.2.1.1 HWB.out.2.2.1.2 hbr.1 hbr.2 (by omega) (by omega) (by omega)
                      obtain ⟨ad, had⟩ : ∃ ad, ad = addsN x.d y n.year (endR false r) := ⟨_, rfl⟩
                      obtain ⟨mi, hmi⟩ : ∃ mi, mi = mnI n.due ad := ⟨_, rfl⟩
                      obtain ⟨ml, hml⟩ : ∃ ml, ml = sv * mi := ⟨_, rfl⟩
                      obtain ⟨ac, hac⟩ : ∃ ac, ac = worthK x.d y p.ns sh i := ⟨_, rfl⟩
                      obtain ⟨su, hsu⟩ : ∃ su, su = ac + ml := ⟨_, rfl⟩
                      have hnx : worthK x.d y p.ns sh (i + 1) = su := by
                        rw [worthK_at hn, iAt_of hsv, show n.slope.toNat = sl by omega, rAt_of hrr, hsu, hac, hml, hmi, had]
                        rfl
                      have hb0 := HBD.out x (List.mem_of_getElem? HX.out) y i
                      have hb1 := HBD.out x (List.mem_of_getElem? HX.out) y (i + 1)
                      rw [hnx] at hb1
                      rw [← hac] at hb0 ⊢
                      rw [← had] at HAD hadb
                      have hmb : 0 ≤ mi ∧ mi ≤ 10000 := by rw [hmi]; unfold mnI; split <;> omega
                      have hsb := HSB.out sv (List.mem_of_getElem? hsv)
                      have hmlb := mulB hsb.1 hsb.2 hmb.1 hmb.2
                      have hl30 := HL30.out
                      have eml : IntKind.i64.wrap (sv * mi) = ml := by rw [hml]; exact IntWalk.i64_in _ (by omega)
                      have esu : IntKind.i64.wrap (ac + ml) = su := by rw [hsu]; exact IntWalk.i64_in _ (by omega)
                      have HMI := Lib.hid hmi
                      have HNX := Lib.hid hnx
                      have x3 := hbx.at 3 (v := .slice p.na p.ns.length p.nc) rfl
                      obtain ⟨b2, o2, e2, _, c0, c1, c2⟩ := row3 (HOK.out.next hbw).ns hn
                      rw [e2] at x3
                      obtain ⟨b3, o3, e3, _, cs0⟩ := row1 ((HR.out.below hbw).more hbw.size) hsv
                      have e5 := HAA.out.trans e3
                      clear e3 HAA
                      subst e5
                      obtain ⟨b4, o4, e4, _, g0, _⟩ := row2 ((HOK.out.next hbw).ad x (List.mem_of_getElem? HX.out)) hrr
                      have HB0 := Lib.hid (And.intro hbw (And.intro hbx (And.intro hwx (And.intro cs0 g0))))
                      have HE4 := Lib.hid e4
                      have HSL := Lib.hid hsl
                      clear hbw hbx hwx hn hsv hnd hyr hrr hbr hadb had hmi hml hac hsu hnx hb0 hb1 hmb hsb hmlb hlen hyb hl30 e2 g0 e4 hsl
                      go_upto_region 23 with fail
                      refine genQ (fun X => newer wr X ∧ Whole X wr.heap.size 60 #[vi n.slope, vi n.year, vi n.due]) ⟨newer_allocH _ _, Whole.made _ _ _⟩ ?_
                      obtain ⟨nb, hnb⟩ : ∃ nb, nb = wr.heap.size := ⟨_, rfl⟩
                      rw [← hnb]
                      clear hnb c0 c1 c2 cs0 x3
                      rintro wv4 ⟨hn, hnx4⟩
                      have y0 := hnx4.at 0 (v := vi n.slope) rfl
                      have y1 := hnx4.at 1 (v := vi n.year) rfl
                      have y2 := hnx4.at 2 (v := vi n.due) rfl
                      rw [HSL.out] at y0
                      have hbx := HB0.out.2.1.below hn HB0.out.2.1.lt
                      have hwx := HB0.out.2.2.1.below hn HB0.out.2.2.1.lt
                      have cs := keep_cell HB0.out.2.2.2.1 hn
                      have c0 := keep_cell HB0.out.2.2.2.2 hn
                      have d0 := hwx.at 0 (v := vi x.d.price) rfl
                      have d1 := hwx.at 1 (v := vi x.d.first) rfl
                      have d2 := hwx.at 2 (v := vi x.d.last) rfl
                      have d3 := hwx.at 3 (v := vi x.d.age) rfl
                      have d4 := hwx.at 4 (v := vi x.d.village) rfl
                      have d5 := hwx.at 5 (v := .slice x.a x.d.adds.length x.cp) rfl
                      have HD5 := Lib.hid d5
                      rw [HE4.out] at d5
                      have HB := Lib.hid (And.intro hn (And.intro hbx hwx))
                      clear hn hnx4 hbx hwx
                      refine wp_words (by kernel_rfl) (region_told 22 (by kernel_rfl) (by kernel_rfl) (fun W => Below wv4.heap.size wv4 W) newer (pickD [vIs (vi ac), vIs (.slice (some ⟨b3, o3, none⟩) sh.length sc), vIs (.int .i64 i), vIs (.pointer (some ⟨b3, o3 + i, none⟩)), vIs (vi sv), vIs (.pointer (some ⟨nb, 2, none⟩)), vIs (vi n.due), vIs (wkV x), vIs (vi y), vIs (.pointer (some ⟨nb, 1, none⟩)), vIs (vi n.year), vIs (.pointer (some ⟨xb, 5, none⟩)), vIs (.slice (some ⟨b4, o4, none⟩) x.d.adds.length x.cp), vIs (.pointer (some ⟨nb, 0, none⟩)), vIs (.int .i64 sl), vIs (.pointer (some ⟨b4, o4 + sl * 2, none⟩)), vIs (.pointer (some ⟨b4, o4 + sl * 2, none⟩)), vIs (vi r.lo), vIs (vi ad), vIs (vi mi), vIs (vi ml), vIs (vi su)]) (fun h k => newer_trans h k) (pickD_stable _ ⟨vIs_st, vIs_st, vIs_st, vIs_st, vIs_st, vIs_st, vIs_st, vIs_st, vIs_st, vIs_st, vIs_st, vIs_st, vIs_st, vIs_st, vIs_st, vIs_st, vIs_st, vIs_st, vIs_st, vIs_st, vIs_st, vIs_st, trivial⟩) (Below.refl _ wv4).drew (Below.refl _ _) ?_ ?_)
                      · refine ⟨?_, ?_, ?_, ?_, ?_, ?_, ?_, ?_, ?_, ?_, ?_, ?_, ?_, ?_, ?_, ?_, ?_, ?_, ?_, ?_, ?_, ?_, trivial⟩
                        · intro a W hG hR hO hp
                          have h12 := hO.slot 12 (by kernel_rfl)
                          refine wp_yields (v := vi ac) ?_ ⟨_, rfl, rfl, Below.refl _ _, hG⟩
                          simp [slotOf] at h12
                          simp [execOp, go_sem, h12]
                        · intro a W hG hR hO hp
                          have h1 := hO.slot 1 (by kernel_rfl)
                          refine wp_yields (v := .slice (some ⟨b3, o3, none⟩) sh.length sc) ?_ ⟨_, rfl, rfl, Below.refl _ _, hG⟩
                          simp [slotOf] at h1
                          simp [execOp, go_sem, h1]
                        · intro a W hG hR hO hp
                          have h13 := hO.slot 13 (by kernel_rfl)
                          refine wp_yields (v := .int .i64 i) ?_ ⟨_, rfl, rfl, Below.refl _ _, hG⟩
                          simp [slotOf] at h13
                          simp [execOp, go_sem, h13]
                        · intro a W hG hR hO hp
                          have h90 : slotOf a 90 = .slice (some ⟨b3, o3, none⟩) sh.length sc := hp.1
                          have h91 : slotOf a 91 = .int .i64 i := hp.2.1
                          refine wp_yields (v := .pointer (some ⟨b3, o3 + i, none⟩)) ?_ ⟨_, rfl, rfl, Below.refl _ _, hG⟩
                          simp [slotOf] at h90 h91
                          simp [execOp, go_sem, h90, h91, hiS]
                        · intro a W hG hR hO hp
                          have h92 : slotOf a 92 = .pointer (some ⟨b3, o3 + i, none⟩) := hp.1
                          have c0 := keep_cell cs hG
                          refine wp_yields (v := vi sv) ?_ ⟨_, rfl, rfl, Below.refl _ _, hG⟩
                          simp [slotOf] at h92
                          simp [execOp, go_sem, h92, c0]
                        · intro a W hG hR hO hp
                          have h14 := hO.slot 14 (by kernel_rfl)
                          refine wp_yields (v := .pointer (some ⟨nb, 2, none⟩)) ?_ ⟨_, rfl, rfl, Below.refl _ _, hG⟩
                          simp [slotOf] at h14
                          simp [execOp, go_sem, h14]
                        · intro a W hG hR hO hp
                          have h94 : slotOf a 94 = .pointer (some ⟨nb, 2, none⟩) := hp.1
                          have c0 := keep_cell y2 hG
                          refine wp_yields (v := vi n.due) ?_ ⟨_, rfl, rfl, Below.refl _ _, hG⟩
                          simp [slotOf] at h94
                          simp [execOp, go_sem, h94, c0]
                        · intro a W hG hR hO hp
                          have h10 := hO.slot 10 (by kernel_rfl)
                          have c0 := keep_cell d0 hG
                          have c1 := keep_cell d1 hG
                          have c2 := keep_cell d2 hG
                          have c3 := keep_cell d3 hG
                          have c4 := keep_cell d4 hG
                          have c5 := keep_cell HD5.out hG
                          refine wp_yields (v := wkV x) ?_ ⟨_, rfl, rfl, Below.refl _ _, hG⟩
                          simp [slotOf] at h10
                          simp [execOp, go_sem, h10, c0, c1, c2, c3, c4, c5]
                        · intro a W hG hR hO hp
                          have h11 := hO.slot 11 (by kernel_rfl)
                          refine wp_yields (v := vi y) ?_ ⟨_, rfl, rfl, Below.refl _ _, hG⟩
                          simp [slotOf] at h11
                          simp [execOp, go_sem, h11]
                        · intro a W hG hR hO hp
                          have h14 := hO.slot 14 (by kernel_rfl)
                          refine wp_yields (v := .pointer (some ⟨nb, 1, none⟩)) ?_ ⟨_, rfl, rfl, Below.refl _ _, hG⟩
                          simp [slotOf] at h14
                          simp [execOp, go_sem, h14]
                        · intro a W hG hR hO hp
                          have h98 : slotOf a 98 = .pointer (some ⟨nb, 1, none⟩) := hp.1
                          have c0 := keep_cell y1 hG
                          refine wp_yields (v := vi n.year) ?_ ⟨_, rfl, rfl, Below.refl _ _, hG⟩
                          simp [slotOf] at h98
                          simp [execOp, go_sem, h98, c0]
                        · intro a W hG hR hO hp
                          have h10 := hO.slot 10 (by kernel_rfl)
                          refine wp_yields (v := .pointer (some ⟨xb, 5, none⟩)) ?_ ⟨_, rfl, rfl, Below.refl _ _, hG⟩
                          simp [slotOf] at h10
                          simp [execOp, go_sem, h10]
                        · intro a W hG hR hO hp
                          have h100 : slotOf a 100 = .pointer (some ⟨xb, 5, none⟩) := hp.1
                          have c0 := keep_cell d5 hG
                          refine wp_yields (v := .slice (some ⟨b4, o4, none⟩) x.d.adds.length x.cp) ?_ ⟨_, rfl, rfl, Below.refl _ _, hG⟩
                          simp [slotOf] at h100
                          simp [execOp, go_sem, h100, c0]
                        · intro a W hG hR hO hp
                          have h14 := hO.slot 14 (by kernel_rfl)
                          refine wp_yields (v := .pointer (some ⟨nb, 0, none⟩)) ?_ ⟨_, rfl, rfl, Below.refl _ _, hG⟩
                          simp [slotOf] at h14
                          simp [execOp, go_sem, h14]
                        · intro a W hG hR hO hp
                          have h102 : slotOf a 102 = .pointer (some ⟨nb, 0, none⟩) := hp.1
                          have c0 := keep_cell y0 hG
                          refine wp_yields (v := .int .i64 sl) ?_ ⟨_, rfl, rfl, Below.refl _ _, hG⟩
                          simp [slotOf] at h102
                          simp [execOp, go_sem, h102, c0]
                        · intro a W hG hR hO hp
                          have h101 : slotOf a 101 = .slice (some ⟨b4, o4, none⟩) x.d.adds.length x.cp := hp.1
                          have h103 : slotOf a 103 = .int .i64 sl := hp.2.1
                          refine wp_yields (v := .pointer (some ⟨b4, o4 + sl * 2, none⟩)) ?_ ⟨_, rfl, rfl, Below.refl _ _, hG⟩
                          simp [slotOf] at h101 h103
                          simp [execOp, go_sem, h101, h103, hsa]
                        · intro a W hG hR hO hp
                          have h104 : slotOf a 104 = .pointer (some ⟨b4, o4 + sl * 2, none⟩) := hp.1
                          refine wp_yields (v := .pointer (some ⟨b4, o4 + sl * 2, none⟩)) ?_ ⟨_, rfl, rfl, Below.refl _ _, hG⟩
                          simp [slotOf] at h104
                          simp [execOp, go_sem, h104]
                        · intro a W hG hR hO hp
                          have h105 : slotOf a 105 = .pointer (some ⟨b4, o4 + sl * 2, none⟩) := hp.1
                          have c0 := keep_cell c0 hG
                          refine wp_yields (v := vi r.lo) ?_ ⟨_, rfl, rfl, Below.refl _ _, hG⟩
                          simp [slotOf] at h105
                          simp [execOp, go_sem, h105, c0]
                        · intro a W hG hR hO hp
                          have h96 : slotOf a 96 = wkV x := hp.1
                          have h97 : slotOf a 97 = vi y := hp.2.1
                          have h99 : slotOf a 99 = vi n.year := hp.2.2.1
                          have h106 : slotOf a 106 = vi r.lo := hp.2.2.2.1
                          refine wp_enters (f := 58) (args := #[wkV x, vi y, vi n.year, vi r.lo]) ?_ ((HAD.out W).mono ?_)
                          · simp [slotOf] at h96 h97 h99 h106
                            simp [go_sem, h96, h97, h99, h106]
                          · rintro e w' ⟨rfl, hb⟩
                            exact ⟨_, rfl, _, rfl, rfl, hb, below_next hG hb⟩
                        · intro a W hG hR hO hp
                          have h95 : slotOf a 95 = vi n.due := hp.1
                          have h107 : slotOf a 107 = vi ad := hp.2.1
                          refine wp_yields (v := vi mi) ?_ ⟨_, rfl, rfl, Below.refl _ _, hG⟩
                          simp [slotOf] at h95 h107
                          simp [go_sem, h95, h107, HMI.out, mnI]
                        · intro a W hG hR hO hp
                          have h93 : slotOf a 93 = vi sv := hp.1
                          have h108 : slotOf a 108 = vi mi := hp.2.1
                          refine wp_yields (v := vi ml) ?_ ⟨_, rfl, rfl, Below.refl _ _, hG⟩
                          simp [slotOf] at h93 h108
                          simp [execOp, go_sem, h93, h108, eml]
                        · intro a W hG hR hO hp
                          have h89 : slotOf a 89 = vi ac := hp.1
                          have h109 : slotOf a 109 = vi ml := hp.2.1
                          refine wp_yields (v := vi su) ?_ ⟨_, rfl, rfl, Below.refl _ _, hG⟩
                          simp [slotOf] at h89 h109
                          simp [execOp, go_sem, h89, h109, esu]
                      · intro W hG hR
                        rintro _ rfl _ rfl _ rfl _ rfl _ rfl _ rfl _ rfl _ rfl _ rfl _ rfl _ rfl _ rfl _ rfl _ rfl _ rfl _ rfl _ rfl _ rfl _ rfl _ rfl _ rfl _ rfl
                        change wpList _ _ _ _ _ _
                        simp only [Act.put, List.setIfInBounds_toArray, List.set_cons_zero, List.set_cons_succ, List.drop_succ_cons, List.drop_zero]
                        have HF := Lib.hid (And.intro (newer_trans HB0.out.1 (newer_trans HB.out.1 hG)) (And.intro (HB.out.2.1.below hG HB.out.2.1.lt) (HB.out.2.2.below hG HB.out.2.2.lt)))
                        clear hG hR HB HB0 y0 y1 y2 cs c0 d0 d1 d2 d3 d4 d5
                        have hl30 := HL30.out
                        go_wp2_with fail
                        go_roundw
                        case rel => exact ⟨i + 1, by omega, by go_num, by rw [HNX.out], HF.out.1, HF.out.2.1, HF.out.2.2⟩
                        case measure => simp [intOf]; omega
                    · obtain rfl : i = sh.length := by omega
                      have hiS : ¬ ((sh.length : Int) < sh.length) := by omega
                      have d0 := hwx.at 0 (v := vi x.d.price) rfl
                      have hwp := HWB.out.1
                      obtain ⟨ac, hac⟩ : ∃ ac, ac = worthK x.d y p.ns sh sh.length := ⟨_, rfl⟩
                      rw [← hac]
                      obtain ⟨tp, htp⟩ : ∃ tp, tp = 1000 * x.d.price := ⟨_, rfl⟩
                      have etp : IntKind.i64.wrap (1000 * x.d.price) = tp := by rw [htp]; exact IntWalk.i64_in _ (by omega)
                      have HYO : Hid (yearOk p.pj sh x.d j = decide (ac ≤ tp)) := Lib.hid (by
                        rw [hac, htp, HY.out.1]
                        unfold yearOk
                        rw [show p.pj.needs = p.ns from rfl, ← HLN.out])
                      have HF := Lib.hid (And.intro hbw (And.intro hbx hwx))
                      clear hbw hbx hwx hac htp hwp
                      by_cases htw : tp < ac
                      · have HBAD := Lib.hid (all_bad (p := fun x : Wk => workOk p.pj sh x.d) HX.out (show workOk p.pj sh x.d = false from HWK.out false (all_bad (k := j) (x := j) (by rw [List.getElem?_range]; exact HY.out.2.2.1) (by rw [HYO.out]; exact decide_eq_false (by omega)))))
                        go_wp2_with fail
                        go_ret
                        exact ⟨by rw [HRW.out HBAD.out] <;> rfl, HF.out.1⟩
                      · have HJN : Hid ((List.range (j + 1)).all (yearOk p.pj sh x.d) = true) := Lib.hid (by
                          rw [List.range_succ, List.all_append, HE2.out, List.all_cons, HYO.out, decide_eq_true (by omega)]
                          rfl)
                        have ey1 : IntKind.i64.wrap (y + 1) = x.d.first + ((j + 1 : Nat) : Int) := by
                          have h1 := HY.out.1
                          have h2 := HYB.out
                          rw [show x.d.first + ((j + 1 : Nat) : Int) = y + 1 by omega]
                          exact IntWalk.i64_in _ (by omega)
                        go_wp2_with fail
                        go_roundw
                        case rel => exact ⟨j + 1, by have := HY.out.2.2.1; omega, rfl, HF.out.1, HF.out.2.1, HF.out.2.2, HJN.out⟩
                        case measure =>
                          have h1 := HY.out.1
                          have h2 := HY.out.2.2.2
                          simp [intOf]
                          omega
                · have hyl : ¬ (y ≤ x.d.last) := by omega
                  have HXN := Lib.hid (early_succ HE.out HX.out (show (!workOk p.pj sh x.d) = false by rw [HWK.out true (by rw [show yearsN x.d = j by omega]; exact HE2.out)]; rfl))
                  clear hwf hpy hy hyn hlt3
                  have hwn := HPO.out.wn
                  go_wp2_with fail
                  go_roundw
                  case rel => exact ⟨k + 1, by omega, by go_num, HB.out.1, HB.out.2.1, HXN.out⟩
                  case measure => simp [intOf]; omega
        · obtain rfl : k = p.ws.length := by omega
          have hkn : ¬ ((p.ws.length : Int) < p.ws.length) := by omega
          have HWA := Lib.hid (all_early HE.out)
          have hbd := HBND.out
          obtain ⟨tb, htb⟩ : ∃ tb, tb = 1000 * bound := ⟨_, rfl⟩
          obtain ⟨bm, hbm⟩ : ∃ bm, bm = bound - 1 := ⟨_, rfl⟩
          obtain ⟨tm, htm⟩ : ∃ tm, tm = 1000 * bm := ⟨_, rfl⟩
          have etb : IntKind.i64.wrap (1000 * bound) = tb := by rw [htb]; exact IntWalk.i64_in _ (by omega)
          have ebm : IntKind.i64.wrap (bound - 1) = bm := by rw [hbm]; exact IntWalk.i64_in _ (by omega)
          have etm : IntKind.i64.wrap (1000 * bm) = tm := by rw [htm]; exact IntWalk.i64_in _ (by omega)
          have HRZ : Hid (res = (decide (D ≤ tb) && decide (tm < D))) := Lib.hid (by
            rw [HRS.out]
            unfold provesB
            rw [HSA.out, show p.pj.works = p.ws.map (·.d) from rfl, all_map, show p.ws.all (fun x => workOk p.pj sh x.d) = true from HWA.out, show p.pj.needs = p.ns from rfl, decide_eq_true HLN.out, ← HLN.out, ← HQ.out.1, ← htb, ← hbm, ← htm]
            rfl)
          have HNN := Lib.hid hbw
          clear hbw hbx HE hbd htb hbm htm
          by_cases c1 : D ≤ tb
          · by_cases c2 : tm < D
            · have HRR : Hid (res = true) := Lib.hid (by rw [HRZ.out, decide_eq_true c1, decide_eq_true c2]; rfl)
              go_wp2_with fail
              go_ret
              exact ⟨by rw [HRR.out] <;> rfl, HNN.out⟩
            · have HRR : Hid (res = false) := Lib.hid (by rw [HRZ.out, decide_eq_true c1, decide_eq_false c2]; rfl)
              go_wp2_with fail
              go_ret
              exact ⟨by rw [HRR.out] <;> rfl, HNN.out⟩
          · have HRR : Hid (res = false) := Lib.hid (by rw [HRZ.out, decide_eq_false c1]; rfl)
            go_wp2_with fail
            go_ret
            exact ⟨by rw [HRR.out] <;> rfl, HNN.out⟩
end Go.Proofs.Ytpnpnfjhjjdmgaa
