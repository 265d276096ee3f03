/- WorksAges, walked: it returns true, whatever the project, the work, the slope and the age. -/
import Derived.Test.YtpnpnfjhjjdmgaaAW
namespace Go.Proofs.Ytpnpnfjhjjdmgaa
open Go.ChangeShapes Go.WideShapes Go.ChangeAt Go.RowKit Go.Deep

theorem Try.info63 : (Try.prog.info? 63).map (fun i => (i.zero, i.size, i.bytes)) = some (some (.agg #[vi 0, vi 0, vi 0, vi 0, vi 0, .slice none 0 0]), 6, 64) := by kernel_rfl
/-- A remainder of two numbers, as a number. -/
theorem rem_nat {a n : Int} (ha : 0 ≤ a) (hn : 0 < n) : ∃ k : Nat, a.tmod n = k ∧ (k : Int) < n := by
  refine ⟨(a % n).toNat, ?_, ?_⟩
  · rw [Int.tmod_eq_emod_of_nonneg ha, Int.toNat_of_nonneg (Int.emod_nonneg _ (by omega))]
  · rw [Int.toNat_of_nonneg (Int.emod_nonneg _ (by omega))]
    exact Int.emod_lt_of_pos _ hn
set_option maxRecDepth 100000 in
set_option maxHeartbeats 8000000 in
theorem worksAges_walk (p : Pm) (a1 a2 a3 : Int) (w : World) (h10 : 0 ≤ a1) (h11 : a1 ≤ 255) (h20 : 0 ≤ a2) (h21 : a2 ≤ 255) (h30 : 0 ≤ a3) (h31 : a3 ≤ 65535) (hok : PmOk p w) :
    Calls Try.prog 8 #[pmV p, .int .u8 a1, .int .u8 a2, .int .u16 a3] w fun e w' => e = .returned (.bool true) ∧ newer w w' := by
  have hnw := newer_allocH w (.cells (pmC p) 27)
  have hbx := Whole.made w 27 (pmC p)
  have HOK := Lib.hid hok
  have HTH := Lib.hid (lawThin p _ (hok.next hnw))
  have H1 := Lib.hid (And.intro (hnw) (hbx))
  clear hnw hbx hok
  have x0 := H1.out.2.at 0 (v := vi p.years) rfl
  have x1 := H1.out.2.at 1 (v := vi p.slopes) rfl
  have x2 := H1.out.2.at 2 (v := .slice p.wa p.ws.length p.wc) rfl
  have x3 := H1.out.2.at 3 (v := .slice p.na p.ns.length p.nc) rfl
  have x4 := H1.out.2.at 4 (v := .slice p.va p.vs.length p.vc) rfl
  have x5 := H1.out.2.at 5 (v := .slice p.pa p.ps.length p.pc) rfl
  cases hth : thinP p.pj with
  | false =>
    rw [hth] at HTH
    clear hth
    go_enter Try.func8, Try.ntmps8
    go_wp2_with fail
    refine (HTH.out).mono ?_
    rintro e w2 ⟨rfl, hb⟩
    have H3 := Lib.hid (And.intro ((newer_trans H1.out.1 hb)) ((H1.out.2.below hb H1.out.2.lt)))
    clear hb H1 x0 x1 x2 x3 x4 x5
    go_wp2_with (go_at_call 17; refine (wakes_any _).mono ?_; rintro e w' ⟨rfl, hwk⟩; have HWK := Lib.hid (newer_trans H3.out.1 hwk); clear hwk)
    go_ret
    exact ⟨rfl, HWK.out⟩
  | true =>
    rw [hth] at HTH
    have HTP := Lib.hid hth
    have HF := Lib.hid (thin_few hth)
    clear hth
    obtain ⟨f, hf⟩ : ∃ f, f = faultN p.pj := ⟨_, rfl⟩
    have HFE := Lib.hid hf
    have hRF := fun V hV => refFault p V (HOK.out.next hV) HF.out
    rw [← hf] at hRF
    have HRF := Lib.hid hRF
    clear hf hRF
    go_enter Try.func8, Try.ntmps8
    go_wp2_with fail
    refine (HTH.out).mono ?_
    rintro e w4 ⟨rfl, hb⟩
    have H5 := Lib.hid (And.intro ((newer_trans H1.out.1 hb)) ((H1.out.2.below hb H1.out.2.lt)))
    clear hb HTH H1 x0 x1 x2 x3 x4 x5
    have x0 := H5.out.2.at 0 (v := vi p.years) rfl
    have x1 := H5.out.2.at 1 (v := vi p.slopes) rfl
    have x2 := H5.out.2.at 2 (v := .slice p.wa p.ws.length p.wc) rfl
    have x3 := H5.out.2.at 3 (v := .slice p.na p.ns.length p.nc) rfl
    have x4 := H5.out.2.at 4 (v := .slice p.va p.vs.length p.vc) rfl
    have x5 := H5.out.2.at 5 (v := .slice p.pa p.ps.length p.pc) rfl
    go_wp2_with fail
    refine (HRF.out _ H5.out.1).mono ?_
    rintro e w6 ⟨rfl, hb⟩
    have H7 := Lib.hid (And.intro ((newer_trans H5.out.1 hb)) ((H5.out.2.below hb H5.out.2.lt)))
    clear hb HRF H5 x0 x1 x2 x3 x4 x5
    by_cases hf0 : f = 0
    case neg =>
      have b2 : (f != 0) = true := by simpa using hf0
      clear hf0
      go_wp2_with (go_at_call 17; refine (wakes_any _).mono ?_; rintro e w' ⟨rfl, hwk⟩; have HWK := Lib.hid (newer_trans H7.out.1 hwk); clear hwk)
      go_ret
      exact ⟨rfl, HWK.out⟩
    subst hf0
    have HPO := Lib.hid (fault_ok HFE.out.symm)
    have x0 := H7.out.2.at 0 (v := vi p.years) rfl
    have x1 := H7.out.2.at 1 (v := vi p.slopes) rfl
    have x2 := H7.out.2.at 2 (v := .slice p.wa p.ws.length p.wc) rfl
    have x3 := H7.out.2.at 3 (v := .slice p.na p.ns.length p.nc) rfl
    have x4 := H7.out.2.at 4 (v := .slice p.va p.vs.length p.vc) rfl
    have x5 := H7.out.2.at 5 (v := .slice p.pa p.ps.length p.pc) rfl
    by_cases hn0 : p.ws.length = 0
    · have e1 : ((p.ws.length : Int) == 0) = true := by rw [beq_iff_eq]; omega
      clear hn0
      go_wp2_with (go_at_call 17; refine (wakes_any _).mono ?_; rintro e w' ⟨rfl, hwk⟩; have HWK := Lib.hid (newer_trans H7.out.1 hwk); clear hwk)
      go_ret
      exact ⟨rfl, HWK.out⟩
    · have e1 : ((p.ws.length : Int) == 0) = false := by rw [beq_eq_false_iff_ne]; omega
      have hpo := HPO.out
      have hwn := hpo.wn
      have hsl := hpo.slopes
      obtain ⟨k, ek, hkn⟩ := rem_nat (a := a1) (n := p.ws.length) h10 (by omega)
      obtain ⟨s, es, hsn⟩ := rem_nat (a := a2) (n := p.slopes) h20 (by omega)
      have c36 : IntKind.i64.wrap a1 = a1 := IntWalk.i64_in _ (by omega)
      have c42 : IntKind.i64.wrap a2 = a2 := IntWalk.i64_in _ (by omega)
      have hne : ¬ (p.ws = []) := by intro h; rw [h] at hn0; exact hn0 rfl
      have hs0 : ¬ (p.slopes = 0) := by omega
      have HB := Lib.hid (And.intro h30 (And.intro h31 (And.intro hkn hsn)))
      clear hn0 hpo hwn hsl h30 h31
      go_wp2_with fail
      go_quiet (fail)
      go_upto_region 4 with fail
      refine genQ (fun X => newer w X ∧ Whole X w.heap.size 27 (pmC p)) ⟨(newer_trans H7.out.1 (newer_drewN _ _)), (H7.out.2.below (newer_drewN _ _) H7.out.2.lt)⟩ ?_
      rintro w8 ⟨g0_, g1_⟩
      have H9 := Lib.hid (And.intro (g0_) (g1_))
      clear g0_ g1_ H7 x0 x1 x2 x3 x4 x5 e1 h10 h11 h20 h21 ek es hkn hsn c36 c42 hne hs0
      have x0 := H9.out.2.at 0 (v := vi p.years) rfl
      have x1 := H9.out.2.at 1 (v := vi p.slopes) rfl
      have x2 := H9.out.2.at 2 (v := .slice p.wa p.ws.length p.wc) rfl
      have x3 := H9.out.2.at 3 (v := .slice p.na p.ns.length p.nc) rfl
      have x4 := H9.out.2.at 4 (v := .slice p.va p.vs.length p.vc) rfl
      have x5 := H9.out.2.at 5 (v := .slice p.pa p.ps.length p.pc) rfl
      go_upto_region 5 with fail
      refine genQ (fun X => newer w X ∧ Whole X w.heap.size 27 (pmC p) ∧ Whole X w8.heap.size 27 (pmC p)) ⟨(newer_trans H9.out.1 (newer_allocH w8 (.cells (pmC p) 27))), (H9.out.2.below (newer_allocH w8 (.cells (pmC p) 27)) H9.out.2.lt), Whole.made _ _ _⟩ ?_
      obtain ⟨xb, hxb⟩ : ∃ xb, xb = w8.heap.size := ⟨_, rfl⟩
      have Lxb := Lib.hid (show w.heap.size ≤ xb ∧ w.heap.size < xb by rw [hxb]; exact ⟨H9.out.1.size, H9.out.2.lt⟩)
      rw [← hxb]
      clear hxb x0 x1 x2 x3 x4 x5
      rintro w10 ⟨g0_, g1_, g2_⟩
      have H11 := Lib.hid (And.intro (g0_) (And.intro (g1_) (g2_)))
      clear g0_ g1_ g2_ H9
      have z0 := H11.out.2.2.at 0 (v := vi p.years) rfl
      have z1 := H11.out.2.2.at 1 (v := vi p.slopes) rfl
      have z2 := H11.out.2.2.at 2 (v := .slice p.wa p.ws.length p.wc) rfl
      have z3 := H11.out.2.2.at 3 (v := .slice p.na p.ns.length p.nc) rfl
      have z4 := H11.out.2.2.at 4 (v := .slice p.va p.vs.length p.vc) rfl
      have z5 := H11.out.2.2.at 5 (v := .slice p.pa p.ps.length p.pc) rfl
      have x2 := H11.out.2.1.at 2 (v := .slice p.wa p.ws.length p.wc) rfl
      obtain ⟨i0, hi0, hz0, hz1, hz2⟩ := info_parts Try.info63
      have HI := Lib.hid (And.intro hi0 (And.intro hz0 (And.intro hz1 hz2)))
      clear hi0 hz0 hz1 hz2
      have HR := Lib.hid ((HOK.out.next (newer_trans H11.out.1 (newer_allocH w10 (.cells #[] 63)))).ws)
      have HSZ := Lib.hid H11.out.1.size
      have x2a := cell_alloc x2 (.cells #[] 63)
      go_upto_region 6 with (at_builtin; go_loud ((refine wpList_plain rfl fun K hK => wp_append_owncopy (enc := wkL) (size := 6) w.heap.size (.tmp 47) (.tmp 49) 22 63 i0 (.agg #[vi 0, vi 0, vi 0, vi 0, vi 0, .slice none 0 0]) 64 Try.underlying22 HI.out.1 HI.out.2.1 HI.out.2.2.1 HI.out.2.2.2 rfl (by omega) (by omega) (fun _ => rfl) rfl w10.heap.size rfl HSZ.out (Whole.made _ _ _) p.ws p.wa p.wc rfl HF.out.ws HR.out (by have := HSZ.out; simp; omega) fun A c wc hB hb hc => hK _ _ ?_); have hbb := newer_trans (newer_allocH w10 (.cells #[] 63)) hb; have H12 := Lib.hid (And.intro ((newer_trans H11.out.1 hbb)) (And.intro ((H11.out.2.1.below hbb H11.out.2.1.lt)) (And.intro ((H11.out.2.2.below hbb H11.out.2.2.lt)) (hB)))); clear hbb hB hb hc HR HSZ z0 z1 z2 z3 z4 z5 x2 x2a; clear H11; have hz2 := H12.out.2.2.1.at 2 (v := .slice p.wa p.ws.length p.wc) rfl; have hf2 := H12.out.2.2.1.free 2))
      refine genQ (fun X => newer w X ∧ Whole X w.heap.size 27 (pmC p) ∧ Whole X xb 27 #[vi p.years, vi p.slopes, .slice A p.ws.length c, .slice p.na p.ns.length p.nc, .slice p.va p.vs.length p.vc, .slice p.pa p.ps.length p.pc] ∧ X.ownsRow w.heap.size 63 6 (.slice A p.ws.length c) p.ws.length (p.ws.flatMap wkL)) ⟨H12.out.1.setCell (p := ⟨xb, 2, none⟩) Lxb.out.1 (.slice A p.ws.length c), H12.out.2.1.far (p := ⟨xb, 2, none⟩) (Nat.ne_of_lt Lxb.out.2) (.slice A p.ws.length c), H12.out.2.2.1.set 2 (.slice A p.ws.length c), own_set H12.out.2.2.2 (own_ne H12.out.2.2.2 H12.out.2.2.1 (by decide)) (.slice A p.ws.length c)⟩ ?_
      rintro w13 ⟨g0_, g1_, g2_, g3_⟩
      have H14 := Lib.hid (And.intro (g0_) (And.intro (g1_) (And.intro (g2_) (g3_))))
      clear g0_ g1_ g2_ g3_ H12 hz2 hf2
      obtain ⟨g, rfl, hg0⟩ := own_some H14.out.2.2.2 (by have := HB.out.2.2.1; omega)
      have HG := Lib.hid hg0
      clear hg0
      have z0 := H14.out.2.2.1.at 0 (v := vi p.years) rfl
      have z1 := H14.out.2.2.1.at 1 (v := vi p.slopes) rfl
      have z2 := H14.out.2.2.1.at 2 (v := .slice (some ⟨g, 0, none⟩) p.ws.length c) rfl
      have z3 := H14.out.2.2.1.at 3 (v := .slice p.na p.ns.length p.nc) rfl
      have z4 := H14.out.2.2.1.at 4 (v := .slice p.va p.vs.length p.vc) rfl
      have z5 := H14.out.2.2.1.at 5 (v := .slice p.pa p.ps.length p.pc) rfl
      have x2 := H14.out.2.1.at 2 (v := .slice p.wa p.ws.length p.wc) rfl
      obtain ⟨x, hx⟩ := get_of_lt (l := p.ws) (k := k) (by have := HB.out.2.2.1; omega)
      have HX := Lib.hid hx
      obtain ⟨b2, o2, e2, _, d0, d1, d2, d3, d4, d5⟩ := row6 (row_of_own (enc := wkL) (size := 6) (by omega) (fun _ => rfl) H14.out.2.2.2) hx
      simp only [Option.some.injEq, Addr.mk.injEq, and_true] at e2
      obtain ⟨rfl, rfl⟩ := e2
      simp only [Nat.zero_add] at d3
      have HWB := Lib.hid (wdB_parts (HPO.out.ws x (List.mem_of_getElem? hx)))
      have hag := HWB.out.2.2.1
      obtain ⟨ag, hga⟩ : ∃ ag, ag = x.d.age + a3 := ⟨_, rfl⟩
      obtain ⟨mn, hmn⟩ : ∃ mn, mn = mnI 1000 ag := ⟨_, rfl⟩
      have h30 := HB.out.1
      have h31 := HB.out.2.1
      have HMB : Hid (x.d.age ≤ mn ∧ mn ≤ 1000) := Lib.hid (by rw [hmn]; unfold mnI; split <;> omega)
      have HMN := Lib.hid hmn
      have c62 : IntKind.i64.wrap a3 = a3 := IntWalk.i64_in _ (by omega)
      have c63 : IntKind.i64.wrap (x.d.age + a3) = ag := by rw [← hga]; exact IntWalk.i64_in _ (by omega)
      have hkl := HB.out.2.2.1
      clear hga hmn h30 h31 hag hx d0 d1 d2 d4 d5
      refine wp_words (by kernel_rfl) (region_told 15 (by kernel_rfl) (by kernel_rfl) (fun W => Below w13.heap.size w13 W) newer (pickD [vIs (.pointer (some ⟨xb, 2, none⟩)), vIs (.slice (some ⟨g, 0, none⟩) p.ws.length c), vIs (.int .i64 k), vIs (.pointer (some ⟨xb, 2, none⟩)), vIs (.slice (some ⟨g, 0, none⟩) p.ws.length c), vIs (.int .i64 k), vIs (.pointer (some ⟨g, k * 6, none⟩)), vIs (.pointer (some ⟨g, k * 6 + 3, none⟩)), vIs (vi x.d.age), vIs (.int .u16 a3), vIs (vi a3), vIs (vi ag), vIs (vi mn), vIs (.pointer (some ⟨g, k * 6, none⟩)), vIs (.pointer (some ⟨g, k * 6 + 3, none⟩))]) (fun h k => newer_trans h k) (pickD_stable _ ⟨vIs_st, vIs_st, vIs_st, vIs_st, vIs_st, vIs_st, vIs_st, vIs_st, vIs_st, vIs_st, vIs_st, vIs_st, vIs_st, vIs_st, vIs_st, trivial⟩) (Below.refl _ w13).drew (Below.refl _ _) ?_ ?_)
      · refine ⟨?_, ?_, ?_, ?_, ?_, ?_, ?_, ?_, ?_, ?_, ?_, ?_, ?_, ?_, ?_, trivial⟩
        · intro a W hG hR hO hp
          have h11 := hO.slot 11 (by kernel_rfl)
          refine wp_yields (v := .pointer (some ⟨xb, 2, none⟩)) ?_ ⟨_, rfl, rfl, Below.refl _ _, hG⟩
          simp [slotOf] at h11
          simp [execOp, go_sem, h11]
        · intro a W hG hR hO hp
          have h52 : slotOf a 52 = .pointer (some ⟨xb, 2, none⟩) := hp.1
          have c0 := keep_cell z2 hG
          refine wp_yields (v := .slice (some ⟨g, 0, none⟩) p.ws.length c) ?_ ⟨_, rfl, rfl, Below.refl _ _, hG⟩
          simp [slotOf] at h52
          simp [execOp, go_sem, h52, c0]
        · intro a W hG hR hO hp
          have h9 := hO.slot 9 (by kernel_rfl)
          refine wp_yields (v := .int .i64 k) ?_ ⟨_, rfl, rfl, Below.refl _ _, hG⟩
          simp [slotOf] at h9
          simp [execOp, go_sem, h9]
        · intro a W hG hR hO hp
          have h11 := hO.slot 11 (by kernel_rfl)
          refine wp_yields (v := .pointer (some ⟨xb, 2, none⟩)) ?_ ⟨_, rfl, rfl, Below.refl _ _, hG⟩
          simp [slotOf] at h11
          simp [execOp, go_sem, h11]
        · intro a W hG hR hO hp
          have h55 : slotOf a 55 = .pointer (some ⟨xb, 2, none⟩) := hp.1
          have c0 := keep_cell z2 hG
          refine wp_yields (v := .slice (some ⟨g, 0, none⟩) p.ws.length c) ?_ ⟨_, rfl, rfl, Below.refl _ _, hG⟩
          simp [slotOf] at h55
          simp [execOp, go_sem, h55, c0]
        · intro a W hG hR hO hp
          have h9 := hO.slot 9 (by kernel_rfl)
          refine wp_yields (v := .int .i64 k) ?_ ⟨_, rfl, rfl, Below.refl _ _, hG⟩
          simp [slotOf] at h9
          simp [execOp, go_sem, h9]
        · intro a W hG hR hO hp
          have h56 : slotOf a 56 = .slice (some ⟨g, 0, none⟩) p.ws.length c := hp.1
          have h57 : slotOf a 57 = .int .i64 k := hp.2.1
          refine wp_yields (v := .pointer (some ⟨g, k * 6, none⟩)) ?_ ⟨_, rfl, rfl, Below.refl _ _, hG⟩
          simp [slotOf] at h56 h57
          simp [execOp, go_sem, h56, h57, hkl]
        · intro a W hG hR hO hp
          have h58 : slotOf a 58 = .pointer (some ⟨g, k * 6, none⟩) := hp.1
          refine wp_yields (v := .pointer (some ⟨g, k * 6 + 3, none⟩)) ?_ ⟨_, rfl, rfl, Below.refl _ _, hG⟩
          simp [slotOf] at h58
          simp [execOp, go_sem, h58]
        · intro a W hG hR hO hp
          have h59 : slotOf a 59 = .pointer (some ⟨g, k * 6 + 3, none⟩) := hp.1
          have c0 := keep_cell d3 hG
          refine wp_yields (v := vi x.d.age) ?_ ⟨_, rfl, rfl, Below.refl _ _, hG⟩
          simp [slotOf] at h59
          simp [execOp, go_sem, h59, c0]
        · intro a W hG hR hO hp
          have h3 := hO.slot 3 (by kernel_rfl)
          refine wp_yields (v := .int .u16 a3) ?_ ⟨_, rfl, rfl, Below.refl _ _, hG⟩
          simp [slotOf] at h3
          simp [execOp, go_sem, h3]
        · intro a W hG hR hO hp
          have h61 : slotOf a 61 = .int .u16 a3 := hp.1
          refine wp_yields (v := vi a3) ?_ ⟨_, rfl, rfl, Below.refl _ _, hG⟩
          simp [slotOf] at h61
          simp [execOp, go_sem, h61, c62]
        · intro a W hG hR hO hp
          have h60 : slotOf a 60 = vi x.d.age := hp.1
          have h62 : slotOf a 62 = vi a3 := hp.2.1
          refine wp_yields (v := vi ag) ?_ ⟨_, rfl, rfl, Below.refl _ _, hG⟩
          simp [slotOf] at h60 h62
          simp [execOp, go_sem, h60, h62, c63]
        · intro a W hG hR hO hp
          have h63 : slotOf a 63 = vi ag := hp.1
          refine wp_yields (v := vi mn) ?_ ⟨_, rfl, rfl, Below.refl _ _, hG⟩
          simp [slotOf] at h63
          simp [go_sem, h63, HMN.out, mnI]
        · intro a W hG hR hO hp
          have h53 : slotOf a 53 = .slice (some ⟨g, 0, none⟩) p.ws.length c := hp.1
          have h54 : slotOf a 54 = .int .i64 k := hp.2.1
          refine wp_yields (v := .pointer (some ⟨g, k * 6, none⟩)) ?_ ⟨_, rfl, rfl, Below.refl _ _, hG⟩
          simp [slotOf] at h53 h54
          simp [execOp, go_sem, h53, h54, hkl]
        · intro a W hG hR hO hp
          have h65 : slotOf a 65 = .pointer (some ⟨g, k * 6, none⟩) := hp.1
          refine wp_yields (v := .pointer (some ⟨g, k * 6 + 3, none⟩)) ?_ ⟨_, rfl, rfl, Below.refl _ _, hG⟩
          simp [slotOf] at h65
          simp [execOp, go_sem, h65]
      · intro wa hG hR
        rintro _ rfl _ rfl _ rfl _ rfl _ rfl _ rfl _ rfl _ rfl _ rfl _ rfl _ rfl _ rfl _ rfl _ rfl _ rfl
        change wpList _ _ _ _ _ _
        simp only [Act.put, List.setIfInBounds_toArray, List.set_cons_zero, List.set_cons_succ, List.drop_succ_cons, List.drop_zero]
        have d3a := keep_cell d3 hG
        clear z2 d3
        have H15 := Lib.hid (And.intro ((newer_trans H14.out.1 hG)) (And.intro ((H14.out.2.1.below hG H14.out.2.1.lt)) (And.intro ((H14.out.2.2.1.below hG H14.out.2.2.1.lt)) ((own_below H14.out.2.2.2 hG)))))
        clear hG hR c62 c63 hkl H14 z0 z1 z3 z4 z5 x2
        have hfr := H15.out.2.2.2.frozenAt (k * 6 + 3)
        go_upto_region 7 with fail
        obtain ⟨px, hpx⟩ : ∃ px : Pm, px = { p with ws := p.ws.set k { x with d := { x.d with age := mn } }, wa := some ⟨g, 0, none⟩, wc := c } := ⟨_, rfl⟩
        have hpv : pmC px = #[vi p.years, vi p.slopes, .slice (some ⟨g, 0, none⟩) p.ws.length c, .slice p.na p.ns.length p.nc, .slice p.va p.vs.length p.vc, .slice p.pa p.ps.length p.pc] := by rw [hpx]; simp
        have hpj : px.pj = ageQ p.pj k mn := by
          rw [hpx]
          simp only [Pm.pj, ageQ]
          rw [set_modify (f := fun z : Wk => { z with d := { z.d with age := mn } }) HX.out, map_modify (f := fun z : Wk => z.d) (g := fun z : Wk => { z with d := { z.d with age := mn } }) (g' := fun z : Wd => { z with age := mn }) (fun _ => rfl)]
        have HOW := Lib.hid ((H15.out.2.2.2.stored (k * 6 + 3) (vi mn)).1)
        have HPK := Lib.hid (show PmOk px (wa.setCell ⟨g, k * 6 + 3, none⟩ (vi mn)) by
            have ho := HOW.out
            rw [flat_put (enc := wkL) (s := 6) (fun _ => rfl) (x' := { x with d := { x.d with age := mn } }) (by omega) p.ws k x HX.out rfl] at ho
            have h := HOK.out.next (H15.out.1.setCell (p := ⟨g, k * 6 + 3, none⟩) HG.out (vi mn))
            rw [hpx]
            refine ⟨?_, ?_, h.ns, h.vs, h.ps⟩
            · exact row_of_own (enc := wkL) (size := 6) (by omega) (fun _ => rfl) (by simpa using ho)
            · intro y hy
              rcases List.mem_or_eq_of_mem_set hy with hy | rfl
              · exact h.ad y hy
              · exact h.ad x (List.mem_of_getElem? HX.out))
        have HPJ := Lib.hid (And.intro hpj hpv)
        refine genQ (fun X => newer w X ∧ Whole X w.heap.size 27 (pmC p) ∧ Whole X xb 27 (pmC px) ∧ PmOk px X) ⟨(H15.out.1.setCell (p := ⟨g, k * 6 + 3, none⟩) HG.out (vi mn)), H15.out.2.1.far (p := ⟨g, k * 6 + 3, none⟩) (fun h => own_ne H15.out.2.2.2 H15.out.2.1 (by decide) (by rw [h]; rfl)) (vi mn), (by rw [HPJ.out.2]; exact H15.out.2.2.1.far (p := ⟨g, k * 6 + 3, none⟩) (fun h => own_ne H15.out.2.2.2 H15.out.2.2.1 (by decide) (by rw [h]; rfl)) (vi mn)), HPK.out⟩ ?_
        rintro w16 ⟨g0_, g1_, g2_, g3_⟩
        have H17 := Lib.hid (And.intro (g0_) (And.intro (g1_) (And.intro (g2_) (g3_))))
        clear g0_ g1_ g2_ g3_ H15 hpx hpv hpj HOW HPK d3a hfr
        obtain ⟨i3, hi0, hz0, hz1, hz2⟩ := info_parts Try.info3w
        have HI3 := Lib.hid (And.intro hi0 (And.intro hz0 (And.intro hz1 hz2)))
        clear hi0 hz0 hz1 hz2 HI i0
        have HW8 := Lib.hid HPO.out.wn
        go_wp2_with fail
        go_loopw [12, 13] (fun s12 s13 wr => ∃ j : Nat, j ≤ p.ws.length ∧ s13 = .int .i64 j ∧ newer w16 wr ∧ wr.ownsRow w16.heap.size 3 1 s12 j ((List.replicate j (-1)).flatMap intL)) (fun _ s13 _ => p.ws.length - (intOf s13).toNat)
        case atStart => exact ⟨0, Nat.zero_le _, rfl, Below.refl _ _, by simp, .inl ⟨rfl, rfl⟩⟩
        case round =>
          obtain ⟨j, hj, rfl, hbw, hown⟩ := hrel
          have x2 := (H17.out.2.1.below hbw H17.out.2.1.lt).at 2 (v := .slice p.wa p.ws.length p.wc) rfl
          by_cases hlt : j < p.ws.length
          · have hkn : (j : Int) < p.ws.length := by omega
            obtain ⟨wx, hwx⟩ : ∃ wx, wx = wr := ⟨_, rfl⟩
            rw [← hwx] at hbw hown x2 ⊢
            clear hwx
            have HO := Lib.hid (own_below hown (newer_allocH wx (.cells #[vi (-1)] 3)))
            have HN := Lib.hid (newer_trans hbw (newer_allocH wx (.cells #[vi (-1)] 3)))
            have HNW := Lib.hid (World.news_of_block (Whole.made wx 3 #[vi (-1)]))
            have hbs := hbw.size
            have hwn := HW8.out
            obtain ⟨hi0, hz0, hz1, hz2⟩ := HI3.out
            clear hbw hown
            go_wp2_with (at_builtin; go_loud ((refine wpList_append_lies _ rfl (.tmp 74) (.tmp 75) 25 rfl w16.heap.size 3 i3 (.int .i64 0) 1 8 Try.underlying25 hi0 hz0 hz1 hz2 rfl (by omega) _ j _ rfl HO.out ⟨wx.heap.size, 0, none⟩ 1 1 [vi (-1)] rfl rfl HNW.out (by simp [Value.oneCell']) (by omega) (by unfold maxLen; omega) (by omega) (by simp; omega) (wx.heap.size + 1) (by simp) ?_); intro gg cp2 w2 hown2 hgrow2 hat2 hlt2; have HG2 := Lib.hid (And.intro hown2 (HN.out.grown hgrow2 HN.out.size (own_ge HO.out))); clear hown2 hgrow2 hat2 hlt2 hi0 hz0 hz1 hz2 hbs))
            go_roundw
            case rel =>
              refine ⟨j + 1, by omega, by go_num, HG2.out.2, ?_⟩
              rw [List.replicate_succ', List.flatMap_append]
              exact HG2.out.1
            case measure => simp [intOf]; omega
          · obtain rfl : j = p.ws.length := by omega
            have hkn : ¬ ((p.ws.length : Int) < p.ws.length) := by omega
            obtain ⟨A2, c2, rfl⟩ := own_form hown
            obtain ⟨h, rfl, hh0⟩ := own_some hown (by have := HB.out.2.2.1; omega)
            have H18 := Lib.hid (And.intro (hbw) (hown))
            have HH := Lib.hid hh0
            clear hbw hown hh0 hj hlt
            obtain ⟨b2, o2, e2, _, d0, d1, d2, d3, d4, d5⟩ := row6 (HOK.out.next (newer_trans H17.out.1 H18.out.1)).ws HX.out
            rw [e2] at x2
            clear e2 d0 d2 d3 d4 d5
            have hcl := H18.out.2.cellAt k (by have := HB.out.2.2.1; omega)
            have hfr := H18.out.2.frozenAt k
            have hkl := HB.out.2.2.1
            have hcl2 : wr.cell? ⟨h, k, none⟩ = some (vi (-1)) := by
              rw [hcl, ints_flat]
              simp only [List.getElem?_map, List.getElem?_replicate]
              rw [if_pos (by omega)]
              rfl
            clear hcl
            go_upto_region 13 with fail
            have HST := Lib.hid ((H18.out.2.stored k (vi x.d.first)).1)
            have HPL := Lib.hid (show Row intL 1 (wr.setCell ⟨h, k, none⟩ (vi x.d.first)) (wr.setCell ⟨h, k, none⟩ (vi x.d.first)).heap.size (some ⟨h, 0, none⟩) (planA p.ws.length k x.d.first) by
                have ho := HST.out
                have e := flat_put (enc := intL) (s := 1) (fun _ => rfl) (x := -1) (x' := x.d.first) (u := vi x.d.first) (j := 0) (by omega) (List.replicate p.ws.length (-1)) k (by rw [List.getElem?_replicate, if_pos (by have := HB.out.2.2.1; omega)]) rfl
                rw [Nat.mul_one, Nat.add_zero] at e
                rw [e] at ho
                exact row_of_own (enc := intL) (size := 1) (by omega) (fun _ => rfl) ho)
            refine genQ (fun X => newer w16 X ∧ Row intL 1 X X.heap.size (some ⟨h, 0, none⟩) (planA p.ws.length k x.d.first)) ⟨H18.out.1.setCell (p := ⟨h, k, none⟩) HH.out (vi x.d.first), HPL.out⟩ ?_
            rintro w19 ⟨g0_, g1_⟩
            have H20 := Lib.hid (And.intro (g0_) (g1_))
            clear g0_ g1_ H18 x2 HST HPL d1 hkl hfr hcl2
            have HC := Lib.hid (And.intro (newer_trans H17.out.1 H20.out.1) (And.intro (H17.out.2.1.below H20.out.1 H17.out.2.1.lt) (And.intro (H17.out.2.2.1.below H20.out.1 H17.out.2.2.1.lt) (And.intro (H17.out.2.2.2.next H20.out.1) H20.out.2))))
            clear H20 H17
            have HQ := Lib.hid (show p.pj.works[k]? = some x.d by simp [Pm.pj, HX.out])
            have HSL := HWB.out.2.2.2.2.1
            obtain ⟨r, hr⟩ := get_of_lt (l := x.d.adds) (k := s) (by have := HB.out.2.2.2; omega)
            have HR := Lib.hid hr
            have HRB := Lib.hid (HWB.out.2.2.2.2.2 r (List.mem_of_getElem? hr))
            clear hr HSL
            go_upto_region 14 with fail
            refine genQ (fun X => newer w19 X ∧ Whole X w19.heap.size 38 #[vi 10000, vi 10000]) ⟨newer_allocH _ _, Whole.made _ _ _⟩ ?_
            obtain ⟨lb, hlb⟩ : ∃ lb, lb = w19.heap.size := ⟨_, rfl⟩
            rw [← hlb]
            have HLB := Lib.hid (Nat.le_of_eq hlb.symm)
            clear hlb
            rintro wd ⟨hn, hl⟩
            have HD := Lib.hid (And.intro hn hl)
            clear hn hl
            go_wp2_with fail
            go_loopw [15] (fun s15 wr => ∃ (y : Nat) (lo hi : Int), (y : Int) ≤ p.years ∧ s15 = .int .i64 y ∧ newer w19 wr ∧ Whole wr lb 38 #[vi lo, vi hi] ∧ LastOk x.d r y lo hi) (fun s15 _ => p.years.toNat - (intOf s15).toNat)
            case atStart => exact ⟨0, 10000, 10000, by have := HPO.out.years; omega, rfl, HD.out.1, HD.out.2, fun _ => ⟨rfl, rfl⟩, fun h => by have := HWB.out.2.1; omega⟩
            case round =>
              obtain ⟨y, lo, hi, hy, rfl, hbw, hlw, hlast⟩ := hrel
              clear HD
              obtain ⟨wo, hwo⟩ : ∃ wo : World, wo = wr := ⟨_, rfl⟩
              rw [← hwo] at hbw hlw ⊢
              clear hwo wr
              have H21 := Lib.hid (And.intro (newer_trans HC.out.1 hbw) (And.intro (hbw) (And.intro (HC.out.2.1.below hbw HC.out.2.1.lt) (And.intro (HC.out.2.2.1.below hbw HC.out.2.2.1.lt) (And.intro (HC.out.2.2.2.1.next hbw) (And.intro ((HC.out.2.2.2.2.below hbw).more hbw.size) (hlw)))))))
              have HL := Lib.hid hlast
              clear hbw hlw hlast
              have x0 := H21.out.2.2.1.at 0 (v := vi p.years) rfl
              have x1 := H21.out.2.2.1.at 1 (v := vi p.slopes) rfl
              have x2 := H21.out.2.2.1.at 2 (v := .slice p.wa p.ws.length p.wc) rfl
              have x3 := H21.out.2.2.1.at 3 (v := .slice p.na p.ns.length p.nc) rfl
              have x4 := H21.out.2.2.1.at 4 (v := .slice p.va p.vs.length p.vc) rfl
              have x5 := H21.out.2.2.1.at 5 (v := .slice p.pa p.ps.length p.pc) rfl
              by_cases hlt : (y : Int) < p.years
              · obtain ⟨alo, halo⟩ : ∃ alo, alo = addsN x.d x.d.first y r.lo := ⟨_, rfl⟩
                obtain ⟨ahi, hahi⟩ : ∃ ahi, ahi = addsN x.d x.d.first y r.hi := ⟨_, rfl⟩
                obtain ⟨blo, hblo⟩ : ∃ blo, blo = addsN { x.d with age := mn } x.d.first y r.lo := ⟨_, rfl⟩
                obtain ⟨bhi, hbhi⟩ : ∃ bhi, bhi = addsN { x.d with age := mn } x.d.first y r.hi := ⟨_, rfl⟩
                have HAV := Lib.hid (And.intro halo hahi)
                have HLE : Hid (¬ (alo < blo) ∧ ¬ (ahi < bhi)) := Lib.hid (by
                    have h1 := HWB.out.2.1
                    have h2 := HRB.out
                    have h3 := addsN_older (x := x.d) (f := x.d.first) (y := y) (n := r.lo) (a := mn) (by omega) h2.1 HMB.out.1
                    have h4 := addsN_older (x := x.d) (f := x.d.first) (y := y) (n := r.hi) (a := mn) (by omega) (by omega) HMB.out.1
                    rw [halo, hahi, hblo, hbhi]
                    exact ⟨Int.not_lt.2 h3, Int.not_lt.2 h4⟩)
                have HN8 : Hid (p.ws.length ≤ 1000) := Lib.hid (by have := HPO.out.wn; omega)
                have HAA := Lib.hid (fun (p1 : Pm) (L : Option Addr) (lp : Nat) (V : World) (hj : p1.pj = p.pj) (hok : PmOk p1 V) (hL : Row intL 1 V V.heap.size L (planA p.ws.length k x.d.first)) => alone_any (lp := lp) (x := x.d) (r := r) (y := y) (k := k) (s := s) hj (thin_few (by rw [hj]; exact HTP.out)) (by simp [Pm.pj]) HN8.out HFE.out.symm HQ.out HR.out HB.out.2.2.2 hlt hok hL)
                have HAX := Lib.hid (fun (p1 : Pm) (L : Option Addr) (lp : Nat) (V : World) (hj : p1.pj = ageQ p.pj k mn) (hok : PmOk p1 V) (hL : Row intL 1 V V.heap.size L (planA p.ws.length k x.d.first)) => alone_any (lp := lp) (x := { x.d with age := mn }) (r := r) (y := y) (k := k) (s := s) hj (thin_few (by rw [hj]; exact (ageQ_thin HTP.out))) (by simp [Pm.pj, ageQ]) HN8.out (ageQ_fault HFE.out.symm (by have := HMB.out.1; have := HWB.out.2.2.1; omega) HMB.out.2) (modify_at (fun z : Wd => { z with age := mn }) HQ.out) HR.out HB.out.2.2.2 hlt hok hL)
                rw [← halo, ← hahi] at HAA
                dsimp only at HAX
                rw [← hblo, ← hbhi] at HAX
                clear halo hahi hblo hbhi
                go_wp2_with fail
                refine (lawProject p wo (HOK.out.next H21.out.1) HF.out).mono ?_
                rintro e w22 ⟨⟨p1, rfl, hj1, ho1, -⟩, hb⟩
                have HJ1 := Lib.hid hj1
                clear hj1
                have H23 := Lib.hid (And.intro ((newer_trans H21.out.1 hb)) (And.intro ((newer_trans H21.out.2.1 hb)) (And.intro ((H21.out.2.2.1.below hb H21.out.2.2.1.lt)) (And.intro ((H21.out.2.2.2.1.below hb H21.out.2.2.2.1.lt)) (And.intro ((H21.out.2.2.2.2.1.next hb)) (And.intro (((H21.out.2.2.2.2.2.1.below hb).more hb.size)) (And.intro ((H21.out.2.2.2.2.2.2.below hb H21.out.2.2.2.2.2.2.lt)) (ho1))))))))
                clear hb ho1 H21 x0 x1 x2 x3 x4 x5
                go_wp2_with fail
                refine (planCopy_any HN8.out H23.out.2.2.2.2.2.1).mono ?_
                rintro e w24 ⟨⟨L1, lp1, rfl, ho1⟩, hb⟩
                have H25 := Lib.hid (And.intro ((newer_trans H23.out.1 hb)) (And.intro ((newer_trans H23.out.2.1 hb)) (And.intro ((H23.out.2.2.1.below hb H23.out.2.2.1.lt)) (And.intro ((H23.out.2.2.2.1.below hb H23.out.2.2.2.1.lt)) (And.intro ((H23.out.2.2.2.2.1.next hb)) (And.intro (((H23.out.2.2.2.2.2.1.below hb).more hb.size)) (And.intro ((H23.out.2.2.2.2.2.2.1.below hb H23.out.2.2.2.2.2.2.1.lt)) (And.intro ((H23.out.2.2.2.2.2.2.2.next hb)) (ho1)))))))))
                clear hb ho1 H23
                go_wp2_with fail
                refine (HAA.out p1 L1 lp1 _ HJ1.out H25.out.2.2.2.2.2.2.2.1 H25.out.2.2.2.2.2.2.2.2).mono ?_
                rintro e w26 ⟨rfl, hb⟩
                have H27 := Lib.hid (And.intro ((newer_trans H25.out.1 hb)) (And.intro ((newer_trans H25.out.2.1 hb)) (And.intro ((H25.out.2.2.1.below hb H25.out.2.2.1.lt)) (And.intro ((H25.out.2.2.2.1.below hb H25.out.2.2.2.1.lt)) (And.intro ((H25.out.2.2.2.2.1.next hb)) (And.intro (((H25.out.2.2.2.2.2.1.below hb).more hb.size)) ((H25.out.2.2.2.2.2.2.1.below hb H25.out.2.2.2.2.2.2.1.lt))))))))
                clear hb HAA HJ1 H25
                go_upto_region 18 with fail
                refine genQ (fun X => newer w X ∧ newer w19 X ∧ Whole X w.heap.size 27 (pmC p) ∧ Whole X xb 27 (pmC px) ∧ PmOk px X ∧ Row intL 1 X X.heap.size (some ⟨h, 0, none⟩) (planA p.ws.length k x.d.first) ∧ Whole X lb 38 #[vi lo, vi hi] ∧ Whole X w26.heap.size 38 #[vi alo, vi ahi]) ⟨(newer_trans H27.out.1 (newer_allocH w26 (.cells #[vi alo, vi ahi] 38))), (newer_trans H27.out.2.1 (newer_allocH w26 (.cells #[vi alo, vi ahi] 38))), (H27.out.2.2.1.below (newer_allocH w26 (.cells #[vi alo, vi ahi] 38)) H27.out.2.2.1.lt), (H27.out.2.2.2.1.below (newer_allocH w26 (.cells #[vi alo, vi ahi] 38)) H27.out.2.2.2.1.lt), (H27.out.2.2.2.2.1.next (newer_allocH w26 (.cells #[vi alo, vi ahi] 38))), ((H27.out.2.2.2.2.2.1.below (newer_allocH w26 (.cells #[vi alo, vi ahi] 38))).more (newer_allocH w26 (.cells #[vi alo, vi ahi] 38)).size), (H27.out.2.2.2.2.2.2.below (newer_allocH w26 (.cells #[vi alo, vi ahi] 38)) H27.out.2.2.2.2.2.2.lt), Whole.made _ _ _⟩ ?_
                obtain ⟨ab, hab⟩ : ∃ ab, ab = w26.heap.size := ⟨_, rfl⟩
                have Lab := Lib.hid (show w.heap.size ≤ ab ∧ w.heap.size < ab ∧ xb < ab ∧ lb < ab by rw [hab]; exact ⟨H27.out.1.size, H27.out.2.2.1.lt, H27.out.2.2.2.1.lt, H27.out.2.2.2.2.2.2.lt⟩)
                rw [← hab]
                clear hab
                rintro w28 ⟨g0_, g1_, g2_, g3_, g4_, g5_, g6_, g7_⟩
                have H29 := Lib.hid (And.intro (g0_) (And.intro (g1_) (And.intro (g2_) (And.intro (g3_) (And.intro (g4_) (And.intro (g5_) (And.intro (g6_) (g7_))))))))
                clear g0_ g1_ g2_ g3_ g4_ g5_ g6_ g7_ H27
                have z0 := H29.out.2.2.2.1.at 0 (v := vi px.years) rfl
                have z1 := H29.out.2.2.2.1.at 1 (v := vi px.slopes) rfl
                have z2 := H29.out.2.2.2.1.at 2 (v := .slice px.wa px.ws.length px.wc) rfl
                have z3 := H29.out.2.2.2.1.at 3 (v := .slice px.na px.ns.length px.nc) rfl
                have z4 := H29.out.2.2.2.1.at 4 (v := .slice px.va px.vs.length px.vc) rfl
                have z5 := H29.out.2.2.2.1.at 5 (v := .slice px.pa px.ps.length px.pc) rfl
                go_wp2_with fail
                refine (lawProject px w28 H29.out.2.2.2.2.1 (thin_few (by rw [HPJ.out.1]; exact ageQ_thin HTP.out))).mono ?_
                rintro e w30 ⟨⟨p1, rfl, hj1, ho1, -⟩, hb⟩
                have HJ1 := Lib.hid (hj1.trans HPJ.out.1)
                clear hj1
                have H31 := Lib.hid (And.intro ((newer_trans H29.out.1 hb)) (And.intro ((newer_trans H29.out.2.1 hb)) (And.intro ((H29.out.2.2.1.below hb H29.out.2.2.1.lt)) (And.intro ((H29.out.2.2.2.1.below hb H29.out.2.2.2.1.lt)) (And.intro ((H29.out.2.2.2.2.1.next hb)) (And.intro (((H29.out.2.2.2.2.2.1.below hb).more hb.size)) (And.intro ((H29.out.2.2.2.2.2.2.1.below hb H29.out.2.2.2.2.2.2.1.lt)) (And.intro ((H29.out.2.2.2.2.2.2.2.below hb H29.out.2.2.2.2.2.2.2.lt)) (ho1)))))))))
                clear hb ho1 H29 z0 z1 z2 z3 z4 z5
                go_wp2_with fail
                refine (planCopy_any HN8.out H31.out.2.2.2.2.2.1).mono ?_
                rintro e w32 ⟨⟨L1, lp1, rfl, ho1⟩, hb⟩
                have H33 := Lib.hid (And.intro ((newer_trans H31.out.1 hb)) (And.intro ((newer_trans H31.out.2.1 hb)) (And.intro ((H31.out.2.2.1.below hb H31.out.2.2.1.lt)) (And.intro ((H31.out.2.2.2.1.below hb H31.out.2.2.2.1.lt)) (And.intro ((H31.out.2.2.2.2.1.next hb)) (And.intro (((H31.out.2.2.2.2.2.1.below hb).more hb.size)) (And.intro ((H31.out.2.2.2.2.2.2.1.below hb H31.out.2.2.2.2.2.2.1.lt)) (And.intro ((H31.out.2.2.2.2.2.2.2.1.below hb H31.out.2.2.2.2.2.2.2.1.lt)) (And.intro ((H31.out.2.2.2.2.2.2.2.2.next hb)) (ho1))))))))))
                clear hb ho1 H31
                go_wp2_with fail
                refine (HAX.out p1 L1 lp1 _ HJ1.out H33.out.2.2.2.2.2.2.2.2.1 H33.out.2.2.2.2.2.2.2.2.2).mono ?_
                rintro e w34 ⟨rfl, hb⟩
                have H35 := Lib.hid (And.intro ((newer_trans H33.out.1 hb)) (And.intro ((newer_trans H33.out.2.1 hb)) (And.intro ((H33.out.2.2.1.below hb H33.out.2.2.1.lt)) (And.intro ((H33.out.2.2.2.1.below hb H33.out.2.2.2.1.lt)) (And.intro ((H33.out.2.2.2.2.1.next hb)) (And.intro (((H33.out.2.2.2.2.2.1.below hb).more hb.size)) (And.intro ((H33.out.2.2.2.2.2.2.1.below hb H33.out.2.2.2.2.2.2.1.lt)) ((H33.out.2.2.2.2.2.2.2.1.below hb H33.out.2.2.2.2.2.2.2.1.lt)))))))))
                clear hb HAX HJ1 H33
                go_upto_region 19 with fail
                refine genQ (fun X => newer w X ∧ newer w19 X ∧ Whole X w.heap.size 27 (pmC p) ∧ Whole X xb 27 (pmC px) ∧ PmOk px X ∧ Row intL 1 X X.heap.size (some ⟨h, 0, none⟩) (planA p.ws.length k x.d.first) ∧ Whole X lb 38 #[vi lo, vi hi] ∧ Whole X ab 38 #[vi alo, vi ahi] ∧ Whole X w34.heap.size 38 #[vi blo, vi bhi]) ⟨(newer_trans H35.out.1 (newer_allocH w34 (.cells #[vi blo, vi bhi] 38))), (newer_trans H35.out.2.1 (newer_allocH w34 (.cells #[vi blo, vi bhi] 38))), (H35.out.2.2.1.below (newer_allocH w34 (.cells #[vi blo, vi bhi] 38)) H35.out.2.2.1.lt), (H35.out.2.2.2.1.below (newer_allocH w34 (.cells #[vi blo, vi bhi] 38)) H35.out.2.2.2.1.lt), (H35.out.2.2.2.2.1.next (newer_allocH w34 (.cells #[vi blo, vi bhi] 38))), ((H35.out.2.2.2.2.2.1.below (newer_allocH w34 (.cells #[vi blo, vi bhi] 38))).more (newer_allocH w34 (.cells #[vi blo, vi bhi] 38)).size), (H35.out.2.2.2.2.2.2.1.below (newer_allocH w34 (.cells #[vi blo, vi bhi] 38)) H35.out.2.2.2.2.2.2.1.lt), (H35.out.2.2.2.2.2.2.2.below (newer_allocH w34 (.cells #[vi blo, vi bhi] 38)) H35.out.2.2.2.2.2.2.2.lt), Whole.made _ _ _⟩ ?_
                obtain ⟨bb, hbb⟩ : ∃ bb, bb = w34.heap.size := ⟨_, rfl⟩
                have Lbb := Lib.hid (show w.heap.size ≤ bb ∧ w.heap.size < bb ∧ xb < bb ∧ lb < bb ∧ ab < bb by rw [hbb]; exact ⟨H35.out.1.size, H35.out.2.2.1.lt, H35.out.2.2.2.1.lt, H35.out.2.2.2.2.2.2.1.lt, H35.out.2.2.2.2.2.2.2.lt⟩)
                rw [← hbb]
                clear hbb
                rintro w36 ⟨g0_, g1_, g2_, g3_, g4_, g5_, g6_, g7_, g8_⟩
                have H37 := Lib.hid (And.intro (g0_) (And.intro (g1_) (And.intro (g2_) (And.intro (g3_) (And.intro (g4_) (And.intro (g5_) (And.intro (g6_) (And.intro (g7_) (g8_)))))))))
                clear g0_ g1_ g2_ g3_ g4_ g5_ g6_ g7_ g8_ H35
                have a_0 := H37.out.2.2.2.2.2.2.2.1.at 0 (v := vi alo) rfl
                have a_1 := H37.out.2.2.2.2.2.2.2.1.at 1 (v := vi ahi) rfl
                have d0 := H37.out.2.2.2.2.2.2.2.2.at 0 (v := vi blo) rfl
                have d1 := H37.out.2.2.2.2.2.2.2.2.at 1 (v := vi bhi) rfl
                have l0 := H37.out.2.2.2.2.2.2.1.at 0 (v := vi lo) rfl
                have l1 := H37.out.2.2.2.2.2.2.1.at 1 (v := vi hi) rfl
                obtain ⟨hb1, hb2⟩ := HLE.out
                have hyr := HPO.out.years
                obtain ⟨b2, o2, e2, _, cy⟩ := row1 H37.out.2.2.2.2.2.1 (planA_at (f := x.d.first) (by have := HB.out.2.2.1; omega) : (planA p.ws.length k x.d.first)[k]? = some x.d.first)
                simp only [Option.some.injEq, Addr.mk.injEq, and_true] at e2
                obtain ⟨rfl, rfl⟩ := e2
                rw [Nat.zero_add] at cy
                have hkl := HB.out.2.2.1
                by_cases hyf : (y : Int) < x.d.first
                · have e1 : alo = 0 := by rw [HAV.out.1]; exact addsN_before hyf
                  have e2 : ahi = 0 := by rw [HAV.out.2]; exact addsN_before hyf
                  subst e1
                  subst e2
                  go_wp2_with fail
                  exact ⟨⟨y + 1, lo, hi, by omega, by go_num, H37.out.2.1, H37.out.2.2.2.2.2.2.1, last_still HL.out hyf⟩, by (simp only [intOf]; omega)⟩
                · have hle := last_le HL.out HWB.out.2.1.1 HWB.out.2.2.1.1 HRB.out (by omega)
                  rw [← HAV.out.1, ← HAV.out.2] at hle
                  have hb3 : ¬ (lo < alo) := Int.not_lt.2 hle.1
                  have hb4 : ¬ (hi < ahi) := Int.not_lt.2 hle.2
                  clear hle
                  have x2 := H37.out.2.2.1.at 2 (v := .slice p.wa p.ws.length p.wc) rfl
                  obtain ⟨b2, o2, e2, _, q0, q1, q2, q3, q4, q5⟩ := row6 (HOK.out.next H37.out.1).ws HX.out
                  rw [e2] at x2
                  obtain ⟨b3, o3, e3, _, t0, t1⟩ := row2 ((HOK.out.next H37.out.1).ad x (List.mem_of_getElem? HX.out)) HR.out
                  rw [e3] at q5
                  have hsn : (s : Int) < x.d.adds.length := by have := HB.out.2.2.2; have := HWB.out.2.2.2.2.1; omega
                  clear e2 e3 q0 q1 q2 q3 q4
                  have f0 := H37.out.2.2.2.2.2.2.1.free 0
                  have f1 := H37.out.2.2.2.2.2.2.1.free 1
                  have HNX : Hid (LastOk x.d r (((y + 1 : Nat) : Int)) alo ahi) := Lib.hid (by
                      have h := last_next (r := r) (x := x.d) (y := y) (by omega)
                      rw [← HAV.out.1, ← HAV.out.2] at h
                      exact h)
                  by_cases heq : (y : Int) = x.d.first
                  · have e1 : alo = r.lo := by rw [HAV.out.1, heq]; exact addsN_first (by have := HWB.out.2.1; omega)
                    have e2 : ahi = r.hi := by rw [HAV.out.2, heq]; exact addsN_first (by have := HWB.out.2.1; omega)
                    subst e1
                    subst e2
                    have heb : ((y : Int) == x.d.first) = true := by rw [beq_iff_eq]; exact heq
                    clear heq
                    go_wp2_with fail
                    go_quiet (fail)
                    go_wp2_with fail
                    refine ⟨⟨y + 1, _, _, by omega, by go_num, ?_, ((H37.out.2.2.2.2.2.2.1.below (newer_drewN _ _) H37.out.2.2.2.2.2.2.1.lt).set 0 _).set 1 _, HNX.out⟩, by (simp only [intOf]; omega)⟩
                    exact ((newer_trans H37.out.2.1 (newer_drewN _ _)).setCell (p := ⟨lb, 0, none⟩) HLB.out _).setCell (p := ⟨lb, 1, none⟩) HLB.out _
                  · have heb : ((y : Int) == x.d.first) = false := by rw [beq_eq_false_iff_ne]; exact heq
                    have heb2 : decide ((y : Int) = x.d.first) = false := decide_eq_false heq
                    clear heq
                    go_upto_region 24 with fail
                    refine wp_words (by kernel_rfl) (region_told_u 49 (by kernel_rfl) (by kernel_rfl) [false, false, false, false, false, false, false, false, false, false, false, false, false, false, false, false, false, false, false, false, true, true, true, true, true, true, true, true, true, true, true, true, true, true, true, true, true, true, true, true, true, true, true, true, true, true, true, true, false] (fun W => Below w36.heap.size w36 W) newer [vIs (.pointer (some ⟨ab, 0, none⟩)), vIs (vi alo), vIs (.pointer (some ⟨lb, 0, none⟩)), vIs (vi lo), vIs (.bool false), vIs (.bool false), vIs (.pointer (some ⟨ab, 1, none⟩)), vIs (vi ahi), vIs (.pointer (some ⟨lb, 1, none⟩)), vIs (vi hi), vIs (.bool false), vIs (.bool false), vIs (.bool false), vIs (.int .i64 y), vIs (.slice (some ⟨h, 0, none⟩) p.ws.length c2), vIs (.int .i64 k), vIs (.pointer (some ⟨h, k, none⟩)), vIs (vi x.d.first), vIs (.bool false), vIs (.bool false), vIs (undef), vIs (undef), vIs (undef), vIs (undef), vIs (undef), vIs (undef), vIs (undef), vIs (undef), vIs (undef), vIs (undef), vIs (undef), vIs (undef), vIs (undef), vIs (undef), vIs (undef), vIs (undef), vIs (undef), vIs (undef), vIs (undef), vIs (undef), vIs (undef), vIs (undef), vIs (undef), vIs (undef), vIs (undef), vIs (undef), vIs (undef), vIs (undef), vIs (.bool false)] ⟨rfl, rfl, rfl, rfl, rfl, rfl, (fun v W h => by obtain rfl : v = _ := h; rfl), (fun v W h => by obtain rfl : v = _ := h; rfl), (fun v W h => by obtain rfl : v = _ := h; rfl), (fun v W h => by obtain rfl : v = _ := h; rfl), (fun v W h => by obtain rfl : v = _ := h; rfl), rfl, rfl, (fun v W h => by obtain rfl : v = _ := h; rfl), (fun v W h => by obtain rfl : v = _ := h; rfl), (fun v W h => by obtain rfl : v = _ := h; rfl), (fun v W h => by obtain rfl : v = _ := h; rfl), (fun v W h => by obtain rfl : v = _ := h; rfl), (fun v W h => by obtain rfl : v = _ := h; rfl), (fun v W h => by obtain rfl : v = _ := h; rfl), (fun v W h => by obtain rfl : v = _ := h; simp), (fun v W h => by obtain rfl : v = _ := h; simp), (fun v W h => by obtain rfl : v = _ := h; simp), (fun v W h => by obtain rfl : v = _ := h; simp), (fun v W h => by obtain rfl : v = _ := h; simp), (fun v W h => by obtain rfl : v = _ := h; simp), (fun v W h => by obtain rfl : v = _ := h; simp), (fun v W h => by obtain rfl : v = _ := h; simp), (fun v W h => by obtain rfl : v = _ := h; simp), (fun v W h => by obtain rfl : v = _ := h; simp), (fun v W h => by obtain rfl : v = _ := h; simp), (fun v W h => by obtain rfl : v = _ := h; simp), (fun v W h => by obtain rfl : v = _ := h; simp), (fun v W h => by obtain rfl : v = _ := h; simp), (fun v W h => by obtain rfl : v = _ := h; simp [undef]), (fun v W h => by obtain rfl : v = _ := h; simp [undef]), (fun v W h => by obtain rfl : v = _ := h; simp [undef]), (fun v W h => by obtain rfl : v = _ := h; simp [undef]), (fun v W h => by obtain rfl : v = _ := h; simp [undef]), (fun v W h => by obtain rfl : v = _ := h; simp [undef]), (fun v W h => by obtain rfl : v = _ := h; simp [undef]), (fun v W h => by obtain rfl : v = _ := h; simp [undef]), (fun v W h => by obtain rfl : v = _ := h; simp [undef]), (fun v W h => by obtain rfl : v = _ := h; simp [undef]), (fun v W h => by obtain rfl : v = _ := h; simp [undef]), (fun v W h => by obtain rfl : v = _ := h; simp [undef]), (fun v W h => by obtain rfl : v = _ := h; simp [undef]), (fun v W h => by obtain rfl : v = _ := h; simp), (fun v W h => by obtain rfl : v = _ := h; rfl), trivial⟩ ⟨(fun h => Bool.noConfusion (show false = true from h)), (fun h => Bool.noConfusion (show false = true from h)), (fun h => Bool.noConfusion (show false = true from h)), (fun h => Bool.noConfusion (show false = true from h)), (fun h => Bool.noConfusion (show false = true from h)), (fun h => Bool.noConfusion (show false = true from h)), (fun h => Bool.noConfusion (show false = true from h)), (fun h => Bool.noConfusion (show false = true from h)), (fun h => Bool.noConfusion (show false = true from h)), (fun h => Bool.noConfusion (show false = true from h)), (fun h => Bool.noConfusion (show false = true from h)), (fun h => Bool.noConfusion (show false = true from h)), (fun h => Bool.noConfusion (show false = true from h)), (fun h => Bool.noConfusion (show false = true from h)), (fun h => Bool.noConfusion (show false = true from h)), (fun h => Bool.noConfusion (show false = true from h)), (fun h => Bool.noConfusion (show false = true from h)), (fun h => Bool.noConfusion (show false = true from h)), (fun h => Bool.noConfusion (show false = true from h)), (fun h => Bool.noConfusion (show false = true from h)), (fun _ _ => rfl), (fun _ _ => rfl), (fun _ _ => rfl), (fun _ _ => rfl), (fun _ _ => rfl), (fun _ _ => rfl), (fun _ _ => rfl), (fun _ _ => rfl), (fun _ _ => rfl), (fun _ _ => rfl), (fun _ _ => rfl), (fun _ _ => rfl), (fun _ _ => rfl), (fun _ _ => rfl), (fun _ _ => rfl), (fun _ _ => rfl), (fun _ _ => rfl), (fun _ _ => rfl), (fun _ _ => rfl), (fun _ _ => rfl), (fun _ _ => rfl), (fun _ _ => rfl), (fun _ _ => rfl), (fun _ _ => rfl), (fun _ _ => rfl), (fun _ _ => rfl), (fun _ _ => rfl), (fun _ _ => rfl), (fun h => Bool.noConfusion (show false = true from h)), trivial⟩ (fun h k => newer_trans h k) (pickD_stable _ ⟨vIs_st, vIs_st, vIs_st, vIs_st, vIs_st, vIs_st, vIs_st, vIs_st, vIs_st, vIs_st, vIs_st, vIs_st, vIs_st, vIs_st, vIs_st, vIs_st, vIs_st, vIs_st, vIs_st, vIs_st, vIs_st, vIs_st, vIs_st, vIs_st, vIs_st, vIs_st, vIs_st, vIs_st, vIs_st, vIs_st, vIs_st, vIs_st, vIs_st, vIs_st, vIs_st, vIs_st, vIs_st, vIs_st, vIs_st, vIs_st, vIs_st, vIs_st, vIs_st, vIs_st, vIs_st, vIs_st, vIs_st, vIs_st, vIs_st, trivial⟩) (Below.refl _ w36).drew (Below.refl _ _) ?_ ?_)
                    · refine ⟨.inr ?_, .inr ?_, .inr ?_, .inr ?_, .inr ?_, .inr ?_, .inr ?_, .inr ?_, .inr ?_, .inr ?_, .inr ?_, .inr ?_, .inr ?_, .inr ?_, .inr ?_, .inr ?_, .inr ?_, .inr ?_, .inr ?_, .inr ?_, .inl rfl, .inl rfl, .inl rfl, .inl rfl, .inl rfl, .inl rfl, .inl rfl, .inl rfl, .inl rfl, .inl rfl, .inl rfl, .inl rfl, .inl rfl, .inl rfl, .inl rfl, .inl rfl, .inl rfl, .inl rfl, .inl rfl, .inl rfl, .inl rfl, .inl rfl, .inl rfl, .inl rfl, .inl rfl, .inl rfl, .inl rfl, .inl rfl, .inr ?_, trivial⟩
                      · intro a W hG hR hO hp
                        have h16 := hO.slot 16 (by kernel_rfl)
                        refine wp_yields (v := .pointer (some ⟨ab, 0, none⟩)) ?_ ⟨_, rfl, rfl, Below.refl _ _, hG⟩
                        simp [slotOf] at h16
                        simp [execOp, go_sem, h16]
                      · intro a W hG hR hO hp
                        have h142 : slotOf a 142 = .pointer (some ⟨ab, 0, none⟩) := hp.1
                        have c0 := keep_cell a_0 hG
                        refine wp_yields (v := vi alo) ?_ ⟨_, rfl, rfl, Below.refl _ _, hG⟩
                        simp [slotOf] at h142
                        simp [execOp, go_sem, h142, c0]
                      · intro a W hG hR hO hp
                        have h14 := hO.slot 14 (by kernel_rfl)
                        refine wp_yields (v := .pointer (some ⟨lb, 0, none⟩)) ?_ ⟨_, rfl, rfl, Below.refl _ _, hG⟩
                        simp [slotOf] at h14
                        simp [execOp, go_sem, h14]
                      · intro a W hG hR hO hp
                        have h144 : slotOf a 144 = .pointer (some ⟨lb, 0, none⟩) := hp.1
                        have c0 := keep_cell l0 hG
                        refine wp_yields (v := vi lo) ?_ ⟨_, rfl, rfl, Below.refl _ _, hG⟩
                        simp [slotOf] at h144
                        simp [execOp, go_sem, h144, c0]
                      · intro a W hG hR hO hp
                        have h143 : slotOf a 143 = vi alo := hp.1
                        have h145 : slotOf a 145 = vi lo := hp.2.1
                        refine wp_yields (v := .bool false) ?_ ⟨_, rfl, rfl, Below.refl _ _, hG⟩
                        simp [slotOf] at h143 h145
                        simp [execOp, go_sem, h143, h145, hb3]
                      · intro a W hG hR hO hp
                        have h146 : slotOf a 146 = .bool false := hp.1
                        refine wp_yields (v := .bool false) ?_ ⟨_, rfl, rfl, Below.refl _ _, hG⟩
                        simp [slotOf] at h146
                        simp [execOp, go_sem, h146]
                      · intro a W hG hR hO hp
                        have h16 := hO.slot 16 (by kernel_rfl)
                        refine wp_yields (v := .pointer (some ⟨ab, 1, none⟩)) ?_ ⟨_, rfl, rfl, Below.refl _ _, hG⟩
                        simp [slotOf] at h16
                        simp [execOp, go_sem, h16]
                      · intro a W hG hR hO hp
                        have h148 : slotOf a 148 = .pointer (some ⟨ab, 1, none⟩) := hp.1
                        have c0 := keep_cell a_1 hG
                        refine wp_yields (v := vi ahi) ?_ ⟨_, rfl, rfl, Below.refl _ _, hG⟩
                        simp [slotOf] at h148
                        simp [execOp, go_sem, h148, c0]
                      · intro a W hG hR hO hp
                        have h14 := hO.slot 14 (by kernel_rfl)
                        refine wp_yields (v := .pointer (some ⟨lb, 1, none⟩)) ?_ ⟨_, rfl, rfl, Below.refl _ _, hG⟩
                        simp [slotOf] at h14
                        simp [execOp, go_sem, h14]
                      · intro a W hG hR hO hp
                        have h150 : slotOf a 150 = .pointer (some ⟨lb, 1, none⟩) := hp.1
                        have c0 := keep_cell l1 hG
                        refine wp_yields (v := vi hi) ?_ ⟨_, rfl, rfl, Below.refl _ _, hG⟩
                        simp [slotOf] at h150
                        simp [execOp, go_sem, h150, c0]
                      · intro a W hG hR hO hp
                        have h149 : slotOf a 149 = vi ahi := hp.1
                        have h151 : slotOf a 151 = vi hi := hp.2.1
                        refine wp_yields (v := .bool false) ?_ ⟨_, rfl, rfl, Below.refl _ _, hG⟩
                        simp [slotOf] at h149 h151
                        simp [execOp, go_sem, h149, h151, hb4]
                      · intro a W hG hR hO hp
                        have h147 : slotOf a 147 = .bool false := hp.1
                        have h152 : slotOf a 152 = .bool false := hp.2.1
                        refine wp_yields (v := .bool false) ?_ ⟨_, rfl, rfl, Below.refl _ _, hG⟩
                        simp [slotOf] at h147 h152
                        simp [execOp, go_sem, h147, h152]
                      · intro a W hG hR hO hp
                        have h153 : slotOf a 153 = .bool false := hp.1
                        refine wp_yields (v := .bool false) ?_ ⟨_, rfl, rfl, Below.refl _ _, hG⟩
                        simp [slotOf] at h153
                        simp [execOp, go_sem, h153]
                      · intro a W hG hR hO hp
                        have h15 := hO.slot 15 (by kernel_rfl)
                        refine wp_yields (v := .int .i64 y) ?_ ⟨_, rfl, rfl, Below.refl _ _, hG⟩
                        simp [slotOf] at h15
                        simp [execOp, go_sem, h15]
                      · intro a W hG hR hO hp
                        have h12 := hO.slot 12 (by kernel_rfl)
                        refine wp_yields (v := .slice (some ⟨h, 0, none⟩) p.ws.length c2) ?_ ⟨_, rfl, rfl, Below.refl _ _, hG⟩
                        simp [slotOf] at h12
                        simp [execOp, go_sem, h12]
                      · intro a W hG hR hO hp
                        have h9 := hO.slot 9 (by kernel_rfl)
                        refine wp_yields (v := .int .i64 k) ?_ ⟨_, rfl, rfl, Below.refl _ _, hG⟩
                        simp [slotOf] at h9
                        simp [execOp, go_sem, h9]
                      · intro a W hG hR hO hp
                        have h156 : slotOf a 156 = .slice (some ⟨h, 0, none⟩) p.ws.length c2 := hp.1
                        have h157 : slotOf a 157 = .int .i64 k := hp.2.1
                        refine wp_yields (v := .pointer (some ⟨h, k, none⟩)) ?_ ⟨_, rfl, rfl, Below.refl _ _, hG⟩
                        simp [slotOf] at h156 h157
                        simp [execOp, go_sem, h156, h157, hkl]
                      · intro a W hG hR hO hp
                        have h158 : slotOf a 158 = .pointer (some ⟨h, k, none⟩) := hp.1
                        have c0 := keep_cell cy hG
                        refine wp_yields (v := vi x.d.first) ?_ ⟨_, rfl, rfl, Below.refl _ _, hG⟩
                        simp [slotOf] at h158
                        simp [execOp, go_sem, h158, c0]
                      · intro a W hG hR hO hp
                        have h155 : slotOf a 155 = .int .i64 y := hp.1
                        have h159 : slotOf a 159 = vi x.d.first := hp.2.1
                        refine wp_yields (v := .bool false) ?_ ⟨_, rfl, rfl, Below.refl _ _, hG⟩
                        simp [slotOf] at h155 h159
                        simp [execOp, go_sem, h155, h159, heb]
                      · intro a W hG hR hO hp
                        have h160 : slotOf a 160 = .bool false := hp.1
                        refine wp_yields (v := .bool false) ?_ ⟨_, rfl, rfl, Below.refl _ _, hG⟩
                        simp [slotOf] at h160
                        simp [execOp, go_sem, h160]
                      · intro a W hG hR hO hp
                        have h161 : slotOf a 161 = .bool false := hp.1
                        have h189 : slotOf a 189 = undef := hp.2.1
                        refine wp_yields (v := .bool false) ?_ ⟨_, rfl, rfl, Below.refl _ _, hG⟩
                        simp [slotOf] at h161 h189
                        simp [execOp, go_sem, h161, h189]
                    · intro W hG hR
                      rintro _ rfl _ rfl _ rfl _ rfl _ rfl _ rfl _ rfl _ rfl _ rfl _ rfl _ rfl _ rfl _ rfl _ rfl _ rfl _ rfl _ rfl _ rfl _ rfl _ rfl _ rfl _ rfl _ rfl _ rfl _ rfl _ rfl _ rfl _ rfl _ rfl _ rfl _ rfl _ rfl _ rfl _ rfl _ rfl _ rfl _ rfl _ rfl _ rfl _ rfl _ rfl _ rfl _ rfl _ rfl _ rfl _ rfl _ rfl _ rfl _ rfl
                      change wpList _ _ _ _ _ _
                      simp only [Act.put, List.setIfInBounds_toArray, List.set_cons_zero, List.set_cons_succ, List.drop_succ_cons, List.drop_zero]
                      have a_0 := keep_cell a_0 hG
                      have a_1 := keep_cell a_1 hG
                      have l0 := keep_cell l0 hG
                      have l1 := keep_cell l1 hG
                      have f0 := (H37.out.2.2.2.2.2.2.1.below hG H37.out.2.2.2.2.2.2.1.lt).free 0
                      have f1 := (H37.out.2.2.2.2.2.2.1.below hG H37.out.2.2.2.2.2.2.1.lt).free 1
                      have HNN := Lib.hid (And.intro (newer_trans H37.out.2.1 hG) (H37.out.2.2.2.2.2.2.1.below hG H37.out.2.2.2.2.2.2.1.lt))
                      clear hG hR
                      go_wp2_with fail
                      refine ⟨⟨y + 1, _, _, by omega, by go_num, ?_, (HNN.out.2.set 0 _).set 1 _, HNX.out⟩, by (simp only [intOf]; omega)⟩
                      exact (HNN.out.1.setCell (p := ⟨lb, 0, none⟩) HLB.out _).setCell (p := ⟨lb, 1, none⟩) HLB.out _
              · have hyn : (y : Int) = p.years := by omega
                have hlt2 : ¬ ((y : Int) < p.years) := hlt
                clear hlt hyn
                go_wp2_with (go_at_call 17; refine (wakes_any _).mono ?_; rintro e w' ⟨rfl, hwk⟩; have HWK := Lib.hid (newer_trans H21.out.1 hwk); clear hwk)
                go_ret
                exact ⟨rfl, HWK.out⟩
end Go.Proofs.Ytpnpnfjhjjdmgaa
