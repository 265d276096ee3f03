/- WorksMore, walked: it returns true, whatever the project and the change. -/
import Derived.Test.YtpnpnfjhjjdmgaaBW
import Derived.Test.YtpnpnfjhjjdmgaaAX
namespace Go.Proofs.Ytpnpnfjhjjdmgaa
open Go.ChangeShapes Go.WideShapes Go.ChangeAt Go.RowKit Go.Deep

theorem more_few {p px : Pm} (h : PmFew p) (h1 : px.ws.length ≤ 1000) (h2 : ∀ x ∈ px.ws, x.d.adds.length ≤ 1000) (h3 : px.ns.length ≤ 1000) (h4 : px.vs = p.vs) (h5 : px.ps.length ≤ 1000) : PmFew px := ⟨h1, h2, h3, by rw [h4]; exact h.vs, h5⟩
/-- What a change does to the best plan. -/
def MoreOk (m : Nat) (q x : Pj) : Prop := (m ≠ 5 → bestE q = 0 → bestE x = 0 ∧ costOf (bestR x) ≤ costOf (bestR q)) ∧ (m = 5 → bestE x = 0 → bestE q = 0 ∧ costOf (bestR q) ≤ costOf (bestR x))
theorem Try.info65 : (Try.prog.info? 65).map (fun i => (i.zero, i.size, i.bytes)) = some (some (.agg #[vi 0, vi 0]), 2, 16) := by kernel_rfl
theorem flat_set_congr {a b : Wk} (h : wkL a = wkL b) {l : List Wk} {k : Nat} : (l.set k a).flatMap wkL = (l.set k b).flatMap wkL := by
  rw [List.flatMap_def, List.flatMap_def, List.map_set, List.map_set, h]
set_option maxRecDepth 100000 in
set_option maxHeartbeats 16000000 in
theorem worksMore_walk (p : Pm) (a1 a2 a3 : Int) (nd : Nd) (w : World) (h10 : 0 ≤ a1) (h11 : a1 ≤ 255) (h20 : 0 ≤ a2) (h21 : a2 ≤ 255) (h30 : 0 ≤ a3) (h31 : a3 ≤ 65535) (hok : PmOk p w) :
    Calls Try.prog 7 #[pmV p, .int .u8 a1, .int .u8 a2, .int .u16 a3, .agg #[vi nd.slope, vi nd.year, vi nd.due]] w fun e w' => e = .returned (.bool true) ∧ newer w w' := by
  have hnw := newer_trans (newer_allocH w (.cells (pmC p) 27)) (newer_allocH (w.alloc (.cells (pmC p) 27)) (.cells #[vi nd.slope, vi nd.year, vi nd.due] 60))
  have hbx := (Whole.made w 27 (pmC p)).alloc (.cells #[vi nd.slope, vi nd.year, vi nd.due] 60)
  have hbn := Whole.made (w.alloc (.cells (pmC p) 27)) 60 #[vi nd.slope, vi nd.year, vi nd.due]
  simp only [World.size_alloc] at hbn
  have HOK := Lib.hid hok
  have HRD := Lib.hid (ready_any p _ (hok.next hnw))
  have H1 := Lib.hid (And.intro (hnw) (And.intro (hbx) (hbn)))
  clear hnw hbx hbn hok
  have x0 := H1.out.2.1.at 0 (v := vi p.years) rfl
  have x1 := H1.out.2.1.at 1 (v := vi p.slopes) rfl
  have x2 := H1.out.2.1.at 2 (v := .slice p.wa p.ws.length p.wc) rfl
  have x3 := H1.out.2.1.at 3 (v := .slice p.na p.ns.length p.nc) rfl
  have x4 := H1.out.2.1.at 4 (v := .slice p.va p.vs.length p.vc) rfl
  have x5 := H1.out.2.1.at 5 (v := .slice p.pa p.ps.length p.pc) rfl
  cases hrd : readyP p.pj with
  | false =>
    rw [hrd] at HRD
    clear hrd h10 h11 h20 h21 h30 h31
    go_enter Try.func7, Try.ntmps7
    go_wp2_with fail
    refine (HRD.out).mono ?_
    rintro e w2 ⟨rfl, hb⟩
    have H3 := Lib.hid (And.intro ((newer_trans H1.out.1 hb)) (And.intro ((H1.out.2.1.below hb H1.out.2.1.lt)) ((H1.out.2.2.below hb H1.out.2.2.lt))))
    clear hb H1 x0 x1 x2 x3 x4 x5
    go_wp2_with (go_at_call 17; refine (wakes_any _).mono ?_; rintro e w' ⟨rfl, hwk⟩; have HWK := Lib.hid (newer_trans H3.out.1 hwk); clear hwk)
    go_ret
    exact ⟨rfl, HWK.out⟩
  | true =>
    rw [hrd] at HRD
    have HTP := Lib.hid (ready_parts hrd).1
    have HF := Lib.hid (thin_few HTP.out)
    have HFZ := Lib.hid (ready_parts hrd).2
    have HPO := Lib.hid (fault_ok HFZ.out)
    have HFO := Lib.hid (faultOk_iff.1 HFZ.out)
    have HB := Lib.hid (And.intro h10 (And.intro h11 (And.intro h20 (And.intro h21 (And.intro h30 h31)))))
    clear hrd h10 h11 h20 h21 h30 h31
    by_cases hw0 : p.ws.length = 0
    · have e1 : ((p.ws.length : Int) == 0) = true := by rw [beq_iff_eq]; omega
      clear hw0
      go_enter Try.func7, Try.ntmps7
      go_wp2_with fail
      refine (HRD.out).mono ?_
      rintro e w4 ⟨rfl, hb⟩
      have H5 := Lib.hid (And.intro ((newer_trans H1.out.1 hb)) (And.intro ((H1.out.2.1.below hb H1.out.2.1.lt)) ((H1.out.2.2.below hb H1.out.2.2.lt))))
      clear hb HRD H1 x0 x1 x2 x3 x4 x5
      have x0 := H5.out.2.1.at 0 (v := vi p.years) rfl
      have x1 := H5.out.2.1.at 1 (v := vi p.slopes) rfl
      have x2 := H5.out.2.1.at 2 (v := .slice p.wa p.ws.length p.wc) rfl
      have x3 := H5.out.2.1.at 3 (v := .slice p.na p.ns.length p.nc) rfl
      have x4 := H5.out.2.1.at 4 (v := .slice p.va p.vs.length p.vc) rfl
      have x5 := H5.out.2.1.at 5 (v := .slice p.pa p.ps.length p.pc) rfl
      go_wp2_with (go_at_call 17; refine (wakes_any _).mono ?_; rintro e w' ⟨rfl, hwk⟩; have HWK := Lib.hid (newer_trans H5.out.1 hwk); clear hwk)
      go_ret
      exact ⟨rfl, HWK.out⟩
    · have e1 : ((p.ws.length : Int) == 0) = false := by rw [beq_eq_false_iff_ne]; omega
      by_cases hn0 : p.ns.length = 0
      · have e2 : ((p.ns.length : Int) == 0) = true := by rw [beq_iff_eq]; omega
        clear hn0 hw0
        go_enter Try.func7, Try.ntmps7
        go_wp2_with fail
        refine (HRD.out).mono ?_
        rintro e w6 ⟨rfl, hb⟩
        have H7 := Lib.hid (And.intro ((newer_trans H1.out.1 hb)) (And.intro ((H1.out.2.1.below hb H1.out.2.1.lt)) ((H1.out.2.2.below hb H1.out.2.2.lt))))
        clear hb HRD H1 x0 x1 x2 x3 x4 x5
        have x0 := H7.out.2.1.at 0 (v := vi p.years) rfl
        have x1 := H7.out.2.1.at 1 (v := vi p.slopes) rfl
        have x2 := H7.out.2.1.at 2 (v := .slice p.wa p.ws.length p.wc) rfl
        have x3 := H7.out.2.1.at 3 (v := .slice p.na p.ns.length p.nc) rfl
        have x4 := H7.out.2.1.at 4 (v := .slice p.va p.vs.length p.vc) rfl
        have x5 := H7.out.2.1.at 5 (v := .slice p.pa p.ps.length p.pc) rfl
        go_wp2_with (go_at_call 17; refine (wakes_any _).mono ?_; rintro e w' ⟨rfl, hwk⟩; have HWK := Lib.hid (newer_trans H7.out.1 hwk); clear hwk)
        go_ret
        exact ⟨rfl, HWK.out⟩
      · have e2 : ((p.ns.length : Int) == 0) = false := by rw [beq_eq_false_iff_ne]; omega
        obtain ⟨E, hE⟩ : ∃ E, E = bestE p.pj := ⟨_, rfl⟩
        have HEE := Lib.hid hE
        obtain ⟨cq, hcq⟩ : ∃ cq, cq = costOf (bestR p.pj) := ⟨_, rfl⟩
        have HCQ := Lib.hid hcq
        obtain ⟨L, hL⟩ : ∃ L, L = bestL p.pj := ⟨_, rfl⟩
        have HLL := Lib.hid hL
        have HBP := Lib.hid (fun (p1 : Pm) (V : World) (hj : p1.pj = p.pj) (hok : PmOk p1 V) (hpc : p1.ps.length ≤ p1.pc) => best_list hj hok (thin_few (by rw [hj]; exact HTP.out)) hpc)
        rw [← hE, ← hcq, ← hL] at HBP
        clear hE hcq hL
        have hpl := HFO.out.pn
        have hyr := HPO.out.years
        have hwn := HPO.out.wn
        have hnn := HPO.out.nn
        have hp0 : 0 < p.ps.length := by have h : (p.ps.length : Int) = p.years := hpl; omega
        obtain ⟨k, ek, hkn⟩ := rem_nat (a := a2) (n := p.ws.length) HB.out.2.2.1 (by omega)
        obtain ⟨i, ei, hin⟩ := rem_nat (a := a2) (n := p.ns.length) HB.out.2.2.1 (by omega)
        obtain ⟨y, ey, hyn⟩ := rem_nat (a := a2) (n := p.ps.length) HB.out.2.2.1 (by omega)
        obtain ⟨m, em, hmn⟩ := rem_nat (a := a1) (n := 6) HB.out.1 (by omega)
        have HK := Lib.hid (And.intro ek hkn)
        have HI := Lib.hid (And.intro ei hin)
        have HY := Lib.hid (And.intro ey hyn)
        have HM := Lib.hid (And.intro em hmn)
        have HLN := Lib.hid (And.intro hw0 (And.intro hn0 (And.intro hp0 (And.intro hwn hnn))))
        clear ek hkn ei hin ey hyn em hmn hw0 hn0 hp0 hwn hnn hpl hyr
        go_enter Try.func7, Try.ntmps7
        go_wp2_with fail
        refine (HRD.out).mono ?_
        rintro e w8 ⟨rfl, hb⟩
        have H9 := Lib.hid (And.intro ((newer_trans H1.out.1 hb)) (And.intro ((H1.out.2.1.below hb H1.out.2.1.lt)) ((H1.out.2.2.below hb H1.out.2.2.lt))))
        clear hb HRD H1 x0 x1 x2 x3 x4 x5
        have x0 := H9.out.2.1.at 0 (v := vi p.years) rfl
        have x1 := H9.out.2.1.at 1 (v := vi p.slopes) rfl
        have x2 := H9.out.2.1.at 2 (v := .slice p.wa p.ws.length p.wc) rfl
        have x3 := H9.out.2.1.at 3 (v := .slice p.na p.ns.length p.nc) rfl
        have x4 := H9.out.2.1.at 4 (v := .slice p.va p.vs.length p.vc) rfl
        have x5 := H9.out.2.1.at 5 (v := .slice p.pa p.ps.length p.pc) rfl
        go_upto_region 4 with fail
        refine genQ (fun X => newer w X ∧ Whole X w.heap.size 27 (pmC p) ∧ Whole X (w.heap.size + 1) 60 #[vi nd.slope, vi nd.year, vi nd.due] ∧ Whole X w8.heap.size 27 (pmC p)) ⟨(newer_trans H9.out.1 (newer_allocH w8 (.cells (pmC p) 27))), (H9.out.2.1.below (newer_allocH w8 (.cells (pmC p) 27)) H9.out.2.1.lt), (H9.out.2.2.below (newer_allocH w8 (.cells (pmC p) 27)) H9.out.2.2.lt), Whole.made _ _ _⟩ ?_
        obtain ⟨xb, hxb⟩ : ∃ xb, xb = w8.heap.size := ⟨_, rfl⟩
        have Lxb := Lib.hid (show w.heap.size ≤ xb ∧ w.heap.size < xb ∧ (w.heap.size + 1) < xb ∧ w8.heap.size ≤ xb by rw [hxb]; exact ⟨H9.out.1.size, H9.out.2.1.lt, H9.out.2.2.lt, Nat.le_refl _⟩)
        rw [← hxb]
        clear hxb x0 x1 x2 x3 x4 x5
        rintro w10 ⟨g0_, g1_, g2_, g3_⟩
        have H11 := Lib.hid (And.intro (g0_) (And.intro (g1_) (And.intro (g2_) (g3_))))
        clear g0_ g1_ g2_ g3_ H9
        clear e1 e2
        have x0 := H11.out.2.1.at 0 (v := vi p.years) rfl
        have x1 := H11.out.2.1.at 1 (v := vi p.slopes) rfl
        have x2 := H11.out.2.1.at 2 (v := .slice p.wa p.ws.length p.wc) rfl
        have x3 := H11.out.2.1.at 3 (v := .slice p.na p.ns.length p.nc) rfl
        have x4 := H11.out.2.1.at 4 (v := .slice p.va p.vs.length p.vc) rfl
        have x5 := H11.out.2.1.at 5 (v := .slice p.pa p.ps.length p.pc) rfl
        have z0 := H11.out.2.2.2.at 0 (v := vi p.years) rfl
        have z1 := H11.out.2.2.2.at 1 (v := vi p.slopes) rfl
        have z2 := H11.out.2.2.2.at 2 (v := .slice p.wa p.ws.length p.wc) rfl
        have z3 := H11.out.2.2.2.at 3 (v := .slice p.na p.ns.length p.nc) rfl
        have z4 := H11.out.2.2.2.at 4 (v := .slice p.va p.vs.length p.vc) rfl
        have z5 := H11.out.2.2.2.at 5 (v := .slice p.pa p.ps.length p.pc) rfl
        obtain ⟨i3, hi0, hz0, hz1, hz2⟩ := info_parts Try.info3w
        have HI3 := Lib.hid (And.intro hi0 (And.intro hz0 (And.intro hz1 hz2)))
        clear hi0 hz0 hz1 hz2
        obtain ⟨i63, hi0, hz0, hz1, hz2⟩ := info_parts Try.info63
        have HI63 := Lib.hid (And.intro hi0 (And.intro hz0 (And.intro hz1 hz2)))
        clear hi0 hz0 hz1 hz2
        obtain ⟨i60, hi0, hz0, hz1, hz2⟩ := info_parts Try.info60
        have HI60 := Lib.hid (And.intro hi0 (And.intro hz0 (And.intro hz1 hz2)))
        clear hi0 hz0 hz1 hz2
        obtain ⟨i65, hi0, hz0, hz1, hz2⟩ := info_parts Try.info65
        have HI65 := Lib.hid (And.intro hi0 (And.intro hz0 (And.intro hz1 hz2)))
        clear hi0 hz0 hz1 hz2
        refine wp_words (by kernel_rfl) (region_told 12 (by kernel_rfl) (by kernel_rfl) (fun W => Below w10.heap.size w10 W) newer (pickD [vIs (.pointer (some ⟨w.heap.size, 5, none⟩)), vIs (.slice p.pa p.ps.length p.pc), vOwn w10.heap.size 3 1 intL p.ps, vEmpT w10.heap.size 63, vIs (.pointer (some ⟨w.heap.size, 2, none⟩)), vIs (.slice p.wa p.ws.length p.wc), vOwn w10.heap.size 63 6 wkL p.ws, vEmpT w10.heap.size 60, vIs (.pointer (some ⟨w.heap.size, 3, none⟩)), vIs (.slice p.na p.ns.length p.nc), vOwn w10.heap.size 60 3 ndL p.ns, vIs (.pointer (some ⟨xb, 5, none⟩))]) (fun h k => newer_trans h k) (pickD_stable _ ⟨vIs_st, vIs_st, vOwn_st, vEmpT_st, vIs_st, vIs_st, vOwn_st, vEmpT_st, vIs_st, vIs_st, vOwn_st, vIs_st, trivial⟩) (Below.refl _ w10).drew (Below.refl _ _) ?_ ?_)
        · refine ⟨?_, ?_, ?_, ?_, ?_, ?_, ?_, ?_, ?_, ?_, ?_, ?_, trivial⟩
          · intro a W hG hR hO hp
            have h5 := hO.slot 5 (by kernel_rfl)
            refine wp_yields (v := .pointer (some ⟨w.heap.size, 5, none⟩)) ?_ ⟨_, rfl, rfl, Below.refl _ _, hG⟩
            simp [slotOf] at h5
            simp [execOp, go_sem, h5]
          · intro a W hG hR hO hp
            have h39 : slotOf a 39 = .pointer (some ⟨w.heap.size, 5, none⟩) := hp.1
            have c0 := keep_cell x5 hG
            refine wp_yields (v := .slice p.pa p.ps.length p.pc) ?_ ⟨_, rfl, rfl, Below.refl _ _, hG⟩
            simp [slotOf] at h39
            simp [execOp, go_sem, h39, c0]
          · intro a W hG hR hO hp
            have h40 : slotOf a 40 = .slice p.pa p.ps.length p.pc := hp.1
            have h40 : slotOf a 40 = .slice p.pa p.ps.length p.pc := hp.1
            refine wp_enters (f := 21) (args := #[.slice p.pa p.ps.length p.pc]) ?_ ((lawListO p.ps p.pa p.pc W HF.out.ps (HOK.out.next (newer_trans H11.out.1 hG)).ps).mono ?_)
            · simp [slotOf] at h40
              simp [go_sem, h40]
            · rintro e w' ⟨⟨A, c, rfl, h1⟩, hb⟩
              exact ⟨_, rfl, _, rfl, ⟨A, c, rfl, own_more h1 hG.size⟩, hb, below_next hG hb⟩
          · intro a W hG hR hO hp
            refine wp_makes (v := .slice (some ⟨W.heap.size, 0, none⟩) 0 0) (W' := W.alloc (.cells #[] 63)) ?_ ⟨_, rfl, ⟨_, rfl, hG.size, Whole.made _ _ _⟩, newer_allocH _ _, hG.alloc hG.size _⟩
            skip
            simp [execOp, go_sem]
          · intro a W hG hR hO hp
            have h5 := hO.slot 5 (by kernel_rfl)
            refine wp_yields (v := .pointer (some ⟨w.heap.size, 2, none⟩)) ?_ ⟨_, rfl, rfl, Below.refl _ _, hG⟩
            simp [slotOf] at h5
            simp [execOp, go_sem, h5]
          · intro a W hG hR hO hp
            have h43 : slotOf a 43 = .pointer (some ⟨w.heap.size, 2, none⟩) := hp.1
            have c0 := keep_cell x2 hG
            refine wp_yields (v := .slice p.wa p.ws.length p.wc) ?_ ⟨_, rfl, rfl, Below.refl _ _, hG⟩
            simp [slotOf] at h43
            simp [execOp, go_sem, h43, c0]
          · intro a W hG hR hO hp
            have h42 := hp.1
            have h44 : slotOf a 44 = .slice p.wa p.ws.length p.wc := hp.2.1
            obtain ⟨nb, h42, hnb, hW⟩ := h42
            obtain ⟨hi0, hz0, hz1, hz2⟩ := HI63.out
            refine wp_append_owncopy (enc := wkL) (size := 6) w10.heap.size (.tmp 42) (.tmp 44) 22 63 i63 (.agg #[vi 0, vi 0, vi 0, vi 0, vi 0, .slice none 0 0]) 64 Try.underlying22 hi0 hz0 hz1 hz2 rfl (by omega) (by omega) (fun _ => rfl) rfl nb ((eval_slot a 42).trans h42) hnb hW p.ws p.wa p.wc ((eval_slot a 44).trans h44) HF.out.ws (HOK.out.next (newer_trans H11.out.1 hG)).ws hG.size ?_
            intro B c w' hown hb hlt
            exact ⟨_, rfl, ⟨B, c, rfl, hown⟩, hb, below_next hG hb⟩
          · intro a W hG hR hO hp
            refine wp_makes (v := .slice (some ⟨W.heap.size, 0, none⟩) 0 0) (W' := W.alloc (.cells #[] 60)) ?_ ⟨_, rfl, ⟨_, rfl, hG.size, Whole.made _ _ _⟩, newer_allocH _ _, hG.alloc hG.size _⟩
            skip
            simp [execOp, go_sem]
          · intro a W hG hR hO hp
            have h5 := hO.slot 5 (by kernel_rfl)
            refine wp_yields (v := .pointer (some ⟨w.heap.size, 3, none⟩)) ?_ ⟨_, rfl, rfl, Below.refl _ _, hG⟩
            simp [slotOf] at h5
            simp [execOp, go_sem, h5]
          · intro a W hG hR hO hp
            have h47 : slotOf a 47 = .pointer (some ⟨w.heap.size, 3, none⟩) := hp.1
            have c0 := keep_cell x3 hG
            refine wp_yields (v := .slice p.na p.ns.length p.nc) ?_ ⟨_, rfl, rfl, Below.refl _ _, hG⟩
            simp [slotOf] at h47
            simp [execOp, go_sem, h47, c0]
          · intro a W hG hR hO hp
            have h46 := hp.1
            have h48 : slotOf a 48 = .slice p.na p.ns.length p.nc := hp.2.1
            obtain ⟨nb, h46, hnb, hW⟩ := h46
            obtain ⟨hi0, hz0, hz1, hz2⟩ := HI60.out
            refine wp_append_owncopy (enc := ndL) (size := 3) w10.heap.size (.tmp 46) (.tmp 48) 23 60 i60 (.agg #[vi 0, vi 0, vi 0]) 24 Try.underlying23 hi0 hz0 hz1 hz2 rfl (by omega) (by omega) (fun _ => rfl) rfl nb ((eval_slot a 46).trans h46) hnb hW p.ns p.na p.nc ((eval_slot a 48).trans h48) HF.out.ns (HOK.out.next (newer_trans H11.out.1 hG)).ns hG.size ?_
            intro B c w' hown hb hlt
            exact ⟨_, rfl, ⟨B, c, rfl, hown⟩, hb, below_next hG hb⟩
          · intro a W hG hR hO hp
            have h11 := hO.slot 11 (by kernel_rfl)
            refine wp_yields (v := .pointer (some ⟨xb, 5, none⟩)) ?_ ⟨_, rfl, rfl, Below.refl _ _, hG⟩
            simp [slotOf] at h11
            simp [execOp, go_sem, h11]
        · intro wa hG hR
          rintro _ rfl _ rfl _ ⟨Q, qc, rfl, hqo⟩ _ hv63 _ rfl _ rfl _ ⟨G1, c1, rfl, hwo⟩ _ hv60 _ rfl _ rfl _ ⟨G2, c2, rfl, hno⟩ _ rfl
          change wpList _ _ _ _ _ _
          simp only [Act.put, List.setIfInBounds_toArray, List.set_cons_zero, List.set_cons_succ, List.drop_succ_cons, List.drop_zero]
          clear hR hv63 hv60
          have HQO := Lib.hid (own_more hqo H11.out.1.size)
          have HWO := Lib.hid (own_more hwo H11.out.1.size)
          have HNO := Lib.hid (own_more hno H11.out.1.size)
          clear hqo hwo hno
          have H12 := Lib.hid (And.intro ((newer_trans H11.out.1 hG)) (And.intro ((H11.out.2.1.below hG H11.out.2.1.lt)) (And.intro ((H11.out.2.2.1.below hG H11.out.2.2.1.lt)) (And.intro ((H11.out.2.2.2.below hG H11.out.2.2.2.lt)) (And.intro (HWO.out) (And.intro (HNO.out) (HQO.out)))))))
          clear hG HQO HWO HNO H11 x0 x1 x2 x3 x4 x5 z0 z1 z2 z3 z4 z5
          obtain ⟨g1, rfl, hg1⟩ := own_some H12.out.2.2.2.2.1 (by have := HLN.out.1; omega)
          have HG_g1 := Lib.hid hg1
          clear hg1
          obtain ⟨g2, rfl, hg2⟩ := own_some H12.out.2.2.2.2.2.1 (by have := HLN.out.2.1; omega)
          have HG_g2 := Lib.hid hg2
          clear hg2
          obtain ⟨g3, rfl, hg3⟩ := own_some H12.out.2.2.2.2.2.2 (by have := HLN.out.2.2.1; omega)
          have HG_g3 := Lib.hid hg3
          clear hg3
          have z0 := H12.out.2.2.2.1.at 0 (v := vi p.years) rfl
          have z1 := H12.out.2.2.2.1.at 1 (v := vi p.slopes) rfl
          have z2 := H12.out.2.2.2.1.at 2 (v := .slice p.wa p.ws.length p.wc) rfl
          have z3 := H12.out.2.2.2.1.at 3 (v := .slice p.na p.ns.length p.nc) rfl
          have z4 := H12.out.2.2.2.1.at 4 (v := .slice p.va p.vs.length p.vc) rfl
          have z5 := H12.out.2.2.2.1.at 5 (v := .slice p.pa p.ps.length p.pc) rfl
          have fz2 := H12.out.2.2.2.1.free 2
          have fz3 := H12.out.2.2.2.1.free 3
          have fz5 := H12.out.2.2.2.1.free 5
          go_upto_region 5 with fail
          clear i3 HI3
          refine genQ (fun X => newer w X ∧ Whole X w.heap.size 27 (pmC p) ∧ Whole X (w.heap.size + 1) 60 #[vi nd.slope, vi nd.year, vi nd.due] ∧ Whole X xb 27 #[vi p.years, vi p.slopes, .slice (some ⟨g1, 0, none⟩) p.ws.length c1, .slice (some ⟨g2, 0, none⟩) p.ns.length c2, .slice p.va p.vs.length p.vc, .slice (some ⟨g3, 0, none⟩) p.ps.length qc] ∧ X.ownsRow w.heap.size 63 6 (.slice (some ⟨g1, 0, none⟩) p.ws.length c1) p.ws.length (p.ws.flatMap wkL) ∧ X.ownsRow w.heap.size 60 3 (.slice (some ⟨g2, 0, none⟩) p.ns.length c2) p.ns.length (p.ns.flatMap ndL) ∧ X.ownsRow w.heap.size 3 1 (.slice (some ⟨g3, 0, none⟩) p.ps.length qc) p.ps.length (p.ps.flatMap intL)) ⟨(((H12.out.1.setCell (p := ⟨xb, 5, none⟩) Lxb.out.1 (.slice (some ⟨g3, 0, none⟩) p.ps.length qc)).setCell (p := ⟨xb, 2, none⟩) Lxb.out.1 (.slice (some ⟨g1, 0, none⟩) p.ws.length c1)).setCell (p := ⟨xb, 3, none⟩) Lxb.out.1 (.slice (some ⟨g2, 0, none⟩) p.ns.length c2)), (((H12.out.2.1.far (p := ⟨xb, 5, none⟩) (Nat.ne_of_lt Lxb.out.2.1) (.slice (some ⟨g3, 0, none⟩) p.ps.length qc)).far (p := ⟨xb, 2, none⟩) (Nat.ne_of_lt Lxb.out.2.1) (.slice (some ⟨g1, 0, none⟩) p.ws.length c1)).far (p := ⟨xb, 3, none⟩) (Nat.ne_of_lt Lxb.out.2.1) (.slice (some ⟨g2, 0, none⟩) p.ns.length c2)), (((H12.out.2.2.1.far (p := ⟨xb, 5, none⟩) (Nat.ne_of_lt Lxb.out.2.2.1) (.slice (some ⟨g3, 0, none⟩) p.ps.length qc)).far (p := ⟨xb, 2, none⟩) (Nat.ne_of_lt Lxb.out.2.2.1) (.slice (some ⟨g1, 0, none⟩) p.ws.length c1)).far (p := ⟨xb, 3, none⟩) (Nat.ne_of_lt Lxb.out.2.2.1) (.slice (some ⟨g2, 0, none⟩) p.ns.length c2)), (((H12.out.2.2.2.1.set 5 (.slice (some ⟨g3, 0, none⟩) p.ps.length qc)).set 2 (.slice (some ⟨g1, 0, none⟩) p.ws.length c1)).set 3 (.slice (some ⟨g2, 0, none⟩) p.ns.length c2)), (own_set (i := 3) (own_set (i := 2) (own_set (i := 5) H12.out.2.2.2.2.1 (own_ne H12.out.2.2.2.2.1 H12.out.2.2.2.1 (by decide)) (.slice (some ⟨g3, 0, none⟩) p.ps.length qc)) (own_ne (own_set (i := 5) H12.out.2.2.2.2.1 (own_ne H12.out.2.2.2.2.1 H12.out.2.2.2.1 (by decide)) (.slice (some ⟨g3, 0, none⟩) p.ps.length qc)) (H12.out.2.2.2.1.set 5 (.slice (some ⟨g3, 0, none⟩) p.ps.length qc)) (by decide)) (.slice (some ⟨g1, 0, none⟩) p.ws.length c1)) (own_ne (own_set (i := 2) (own_set (i := 5) H12.out.2.2.2.2.1 (own_ne H12.out.2.2.2.2.1 H12.out.2.2.2.1 (by decide)) (.slice (some ⟨g3, 0, none⟩) p.ps.length qc)) (own_ne (own_set (i := 5) H12.out.2.2.2.2.1 (own_ne H12.out.2.2.2.2.1 H12.out.2.2.2.1 (by decide)) (.slice (some ⟨g3, 0, none⟩) p.ps.length qc)) (H12.out.2.2.2.1.set 5 (.slice (some ⟨g3, 0, none⟩) p.ps.length qc)) (by decide)) (.slice (some ⟨g1, 0, none⟩) p.ws.length c1)) ((H12.out.2.2.2.1.set 5 (.slice (some ⟨g3, 0, none⟩) p.ps.length qc)).set 2 (.slice (some ⟨g1, 0, none⟩) p.ws.length c1)) (by decide)) (.slice (some ⟨g2, 0, none⟩) p.ns.length c2)), (own_set (i := 3) (own_set (i := 2) (own_set (i := 5) H12.out.2.2.2.2.2.1 (own_ne H12.out.2.2.2.2.2.1 H12.out.2.2.2.1 (by decide)) (.slice (some ⟨g3, 0, none⟩) p.ps.length qc)) (own_ne (own_set (i := 5) H12.out.2.2.2.2.2.1 (own_ne H12.out.2.2.2.2.2.1 H12.out.2.2.2.1 (by decide)) (.slice (some ⟨g3, 0, none⟩) p.ps.length qc)) (H12.out.2.2.2.1.set 5 (.slice (some ⟨g3, 0, none⟩) p.ps.length qc)) (by decide)) (.slice (some ⟨g1, 0, none⟩) p.ws.length c1)) (own_ne (own_set (i := 2) (own_set (i := 5) H12.out.2.2.2.2.2.1 (own_ne H12.out.2.2.2.2.2.1 H12.out.2.2.2.1 (by decide)) (.slice (some ⟨g3, 0, none⟩) p.ps.length qc)) (own_ne (own_set (i := 5) H12.out.2.2.2.2.2.1 (own_ne H12.out.2.2.2.2.2.1 H12.out.2.2.2.1 (by decide)) (.slice (some ⟨g3, 0, none⟩) p.ps.length qc)) (H12.out.2.2.2.1.set 5 (.slice (some ⟨g3, 0, none⟩) p.ps.length qc)) (by decide)) (.slice (some ⟨g1, 0, none⟩) p.ws.length c1)) ((H12.out.2.2.2.1.set 5 (.slice (some ⟨g3, 0, none⟩) p.ps.length qc)).set 2 (.slice (some ⟨g1, 0, none⟩) p.ws.length c1)) (by decide)) (.slice (some ⟨g2, 0, none⟩) p.ns.length c2)), (own_set (i := 3) (own_set (i := 2) (own_set (i := 5) H12.out.2.2.2.2.2.2 (own_ne H12.out.2.2.2.2.2.2 H12.out.2.2.2.1 (by decide)) (.slice (some ⟨g3, 0, none⟩) p.ps.length qc)) (own_ne (own_set (i := 5) H12.out.2.2.2.2.2.2 (own_ne H12.out.2.2.2.2.2.2 H12.out.2.2.2.1 (by decide)) (.slice (some ⟨g3, 0, none⟩) p.ps.length qc)) (H12.out.2.2.2.1.set 5 (.slice (some ⟨g3, 0, none⟩) p.ps.length qc)) (by decide)) (.slice (some ⟨g1, 0, none⟩) p.ws.length c1)) (own_ne (own_set (i := 2) (own_set (i := 5) H12.out.2.2.2.2.2.2 (own_ne H12.out.2.2.2.2.2.2 H12.out.2.2.2.1 (by decide)) (.slice (some ⟨g3, 0, none⟩) p.ps.length qc)) (own_ne (own_set (i := 5) H12.out.2.2.2.2.2.2 (own_ne H12.out.2.2.2.2.2.2 H12.out.2.2.2.1 (by decide)) (.slice (some ⟨g3, 0, none⟩) p.ps.length qc)) (H12.out.2.2.2.1.set 5 (.slice (some ⟨g3, 0, none⟩) p.ps.length qc)) (by decide)) (.slice (some ⟨g1, 0, none⟩) p.ws.length c1)) ((H12.out.2.2.2.1.set 5 (.slice (some ⟨g3, 0, none⟩) p.ps.length qc)).set 2 (.slice (some ⟨g1, 0, none⟩) p.ws.length c1)) (by decide)) (.slice (some ⟨g2, 0, none⟩) p.ns.length c2))⟩ ?_
          rintro w13 ⟨g0_, g1_, g2_, g3_, g4_, g5_, g6_⟩
          have H14 := Lib.hid (And.intro (g0_) (And.intro (g1_) (And.intro (g2_) (And.intro (g3_) (And.intro (g4_) (And.intro (g5_) (g6_)))))))
          clear g0_ g1_ g2_ g3_ g4_ g5_ g6_ H12 z0 z1 z2 z3 z4 z5 fz2 fz3 fz5
          have z0 := H14.out.2.2.2.1.at 0 (v := vi p.years) rfl
          have z1 := H14.out.2.2.2.1.at 1 (v := vi p.slopes) rfl
          have z2 := H14.out.2.2.2.1.at 2 (v := .slice (some ⟨g1, 0, none⟩) p.ws.length c1) rfl
          have z3 := H14.out.2.2.2.1.at 3 (v := .slice (some ⟨g2, 0, none⟩) p.ns.length c2) rfl
          have z4 := H14.out.2.2.2.1.at 4 (v := .slice p.va p.vs.length p.vc) rfl
          have z5 := H14.out.2.2.2.1.at 5 (v := .slice (some ⟨g3, 0, none⟩) p.ps.length qc) rfl
          have x0 := H14.out.2.1.at 0 (v := vi p.years) rfl
          have x1 := H14.out.2.1.at 1 (v := vi p.slopes) rfl
          have x2 := H14.out.2.1.at 2 (v := .slice p.wa p.ws.length p.wc) rfl
          have x3 := H14.out.2.1.at 3 (v := .slice p.na p.ns.length p.nc) rfl
          have x4 := H14.out.2.1.at 4 (v := .slice p.va p.vs.length p.vc) rfl
          have x5 := H14.out.2.1.at 5 (v := .slice p.pa p.ps.length p.pc) rfl
          have hB := HB.out
          obtain ⟨h10, h11, h20, h21, h30, h31⟩ := HB.out
          clear hB
          obtain ⟨hw0, hn0, hp0, hwn, hnn⟩ := HLN.out
          have c54 : IntKind.i64.wrap a2 = a2 := IntWalk.i64_in _ (by omega)
          have ek := HK.out.1
          have hne : ¬ (p.ws = []) := by intro h; rw [h] at hw0; exact hw0 rfl
          have hmn := HM.out.2
          have em := HM.out.1
          have em2 : a1 % 6 = m := by rw [← Int.tmod_eq_emod_of_nonneg h10]; exact em
          obtain ⟨x, hx⟩ := get_of_lt (l := p.ws) (k := k) (by have := HK.out.2; omega)
          have HX := Lib.hid hx
          have HWB := Lib.hid (wdB_parts (HPO.out.ws x (List.mem_of_getElem? hx)))
          have HQ := Lib.hid (show p.pj.works[k]? = some x.d by simp [Pm.pj, hx])
          clear hx
          have hm : m = 0 ∨ m = 1 ∨ m = 2 ∨ m = 3 ∨ m = 4 ∨ m = 5 := by omega
          clear hmn
          rcases hm with rfl | rfl | rfl | rfl | rfl | rfl
          · have ey := HY.out.1
            have hpe : ¬ (p.ps = []) := by intro h; rw [h] at hp0; exact absurd hp0 (by decide)
            go_upto_region 10 with fail
            clear ey hpe c54 ek hne em em2
            obtain ⟨mo, ha⟩ := get_of_lt (l := p.ps) (k := y) (by have := HY.out.2; omega)
            have HA := Lib.hid ha
            have hab := HFO.out.ps mo (List.mem_of_getElem? (l := p.pj.purses) ha)
            simp only [inB, Bool.and_eq_true, decide_eq_true_eq] at hab
            obtain ⟨b2, o2, e2, _, d0⟩ := row1 (row_of_own (enc := intL) (size := 1) (by omega) (fun _ => rfl) H14.out.2.2.2.2.2.2) ha
            simp only [Option.some.injEq, Addr.mk.injEq, and_true] at e2
            obtain ⟨rfl, rfl⟩ := e2
            simp only [Nat.zero_add] at d0
            obtain ⟨ag, hga⟩ : ∃ ag, ag = mo + a3 := ⟨_, rfl⟩
            obtain ⟨mn, hmn⟩ : ∃ mn, mn = mnI 1000000 ag := ⟨_, rfl⟩
            have HMB : Hid (mo ≤ mn) := Lib.hid (by rw [hmn]; unfold mnI; split <;> omega)
            have HMN := Lib.hid hmn
            have c62 : IntKind.i64.wrap a3 = a3 := IntWalk.i64_in _ (by omega)
            have c63 : IntKind.i64.wrap (mo + a3) = ag := by rw [← hga]; exact IntWalk.i64_in _ (by omega)
            have hkl := HY.out.2
            clear hga hmn hab ha h10 h11 h20 h21 h30 h31
            refine wp_words (by kernel_rfl) (region_told 12 (by kernel_rfl) (by kernel_rfl) (fun W => Below w13.heap.size w13 W) newer (pickD [vIs (.pointer (some ⟨xb, 5, none⟩)), vIs (.slice (some ⟨g3, 0, none⟩) p.ps.length qc), vIs (.int .i64 y), vIs (.pointer (some ⟨xb, 5, none⟩)), vIs (.slice (some ⟨g3, 0, none⟩) p.ps.length qc), vIs (.int .i64 y), vIs (.pointer (some ⟨g3, y, none⟩)), vIs (vi mo), vIs (.int .u16 a3), vIs (vi a3), vIs (vi ag), vIs (vi mn)]) (fun h k => newer_trans h k) (pickD_stable _ ⟨vIs_st, vIs_st, vIs_st, vIs_st, vIs_st, vIs_st, vIs_st, vIs_st, vIs_st, vIs_st, vIs_st, vIs_st, trivial⟩) (Below.refl _ w13).drew (Below.refl _ _) ?_ ?_)
            · refine ⟨?_, ?_, ?_, ?_, ?_, ?_, ?_, ?_, ?_, ?_, ?_, ?_, trivial⟩
              · intro a W hG hR hO hp
                have h11 := hO.slot 11 (by kernel_rfl)
                refine wp_yields (v := .pointer (some ⟨xb, 5, none⟩)) ?_ ⟨_, rfl, rfl, Below.refl _ _, hG⟩
                simp [slotOf] at h11
                simp [execOp, go_sem, h11]
              · intro a W hG hR hO hp
                have h75 : slotOf a 75 = .pointer (some ⟨xb, 5, none⟩) := hp.1
                have c0 := keep_cell z5 hG
                refine wp_yields (v := .slice (some ⟨g3, 0, none⟩) p.ps.length qc) ?_ ⟨_, rfl, rfl, Below.refl _ _, hG⟩
                simp [slotOf] at h75
                simp [execOp, go_sem, h75, c0]
              · intro a W hG hR hO hp
                have h13 := hO.slot 13 (by kernel_rfl)
                refine wp_yields (v := .int .i64 y) ?_ ⟨_, rfl, rfl, Below.refl _ _, hG⟩
                simp [slotOf] at h13
                simp [execOp, go_sem, h13]
              · intro a W hG hR hO hp
                have h11 := hO.slot 11 (by kernel_rfl)
                refine wp_yields (v := .pointer (some ⟨xb, 5, none⟩)) ?_ ⟨_, rfl, rfl, Below.refl _ _, hG⟩
                simp [slotOf] at h11
                simp [execOp, go_sem, h11]
              · intro a W hG hR hO hp
                have h78 : slotOf a 78 = .pointer (some ⟨xb, 5, none⟩) := hp.1
                have c0 := keep_cell z5 hG
                refine wp_yields (v := .slice (some ⟨g3, 0, none⟩) p.ps.length qc) ?_ ⟨_, rfl, rfl, Below.refl _ _, hG⟩
                simp [slotOf] at h78
                simp [execOp, go_sem, h78, c0]
              · intro a W hG hR hO hp
                have h13 := hO.slot 13 (by kernel_rfl)
                refine wp_yields (v := .int .i64 y) ?_ ⟨_, rfl, rfl, Below.refl _ _, hG⟩
                simp [slotOf] at h13
                simp [execOp, go_sem, h13]
              · intro a W hG hR hO hp
                have h79 : slotOf a 79 = .slice (some ⟨g3, 0, none⟩) p.ps.length qc := hp.1
                have h80 : slotOf a 80 = .int .i64 y := hp.2.1
                refine wp_yields (v := .pointer (some ⟨g3, y, none⟩)) ?_ ⟨_, rfl, rfl, Below.refl _ _, hG⟩
                simp [slotOf] at h79 h80
                simp [execOp, go_sem, h79, h80, hkl]
              · intro a W hG hR hO hp
                have h81 : slotOf a 81 = .pointer (some ⟨g3, y, none⟩) := hp.1
                have c0 := keep_cell d0 hG
                refine wp_yields (v := vi mo) ?_ ⟨_, rfl, rfl, Below.refl _ _, hG⟩
                simp [slotOf] at h81
                simp [execOp, go_sem, h81, c0]
              · intro a W hG hR hO hp
                have h3 := hO.slot 3 (by kernel_rfl)
                refine wp_yields (v := .int .u16 a3) ?_ ⟨_, rfl, rfl, Below.refl _ _, hG⟩
                simp [slotOf] at h3
                simp [execOp, go_sem, h3]
              · intro a W hG hR hO hp
                have h83 : slotOf a 83 = .int .u16 a3 := hp.1
                refine wp_yields (v := vi a3) ?_ ⟨_, rfl, rfl, Below.refl _ _, hG⟩
                simp [slotOf] at h83
                simp [execOp, go_sem, h83, c62]
              · intro a W hG hR hO hp
                have h82 : slotOf a 82 = vi mo := hp.1
                have h84 : slotOf a 84 = vi a3 := hp.2.1
                refine wp_yields (v := vi ag) ?_ ⟨_, rfl, rfl, Below.refl _ _, hG⟩
                simp [slotOf] at h82 h84
                simp [execOp, go_sem, h82, h84, c63]
              · intro a W hG hR hO hp
                have h85 : slotOf a 85 = vi ag := hp.1
                refine wp_yields (v := vi mn) ?_ ⟨_, rfl, rfl, Below.refl _ _, hG⟩
                simp [slotOf] at h85
                simp [go_sem, h85, HMN.out, mnI]
            · intro wz hG hR
              rintro _ rfl _ rfl _ rfl _ rfl _ rfl _ rfl _ rfl _ rfl _ rfl _ rfl _ rfl _ rfl
              change wpList _ _ _ _ _ _
              simp only [Act.put, List.setIfInBounds_toArray, List.set_cons_zero, List.set_cons_succ, List.drop_succ_cons, List.drop_zero]
              clear hR c62 c63 d0
              have H15 := Lib.hid (And.intro ((newer_trans H14.out.1 hG)) (And.intro ((H14.out.2.1.below hG H14.out.2.1.lt)) (And.intro ((H14.out.2.2.1.below hG H14.out.2.2.1.lt)) (And.intro ((H14.out.2.2.2.1.below hG H14.out.2.2.2.1.lt)) (And.intro ((own_below H14.out.2.2.2.2.1 hG)) (And.intro ((own_below H14.out.2.2.2.2.2.1 hG)) ((own_below H14.out.2.2.2.2.2.2 hG))))))))
              clear hG H14 z0 z1 z2 z3 z4 z5 x0 x1 x2 x3 x4 x5 hw0 hn0 hp0 hwn hnn
              have z5 := H15.out.2.2.2.1.at 5 (v := .slice (some ⟨g3, 0, none⟩) p.ps.length qc) rfl
              have hfr := H15.out.2.2.2.2.2.2.frozenAt y
              have hcl := H15.out.2.2.2.2.2.2.cellAt y (by have := HY.out.2; omega)
              rw [show ((p.ps.flatMap intL)[y]?) = some (vi mo) by rw [ints_flat, List.getElem?_map, HA.out]; rfl] at hcl
              have hpj0 : True := trivial
              clear hpj0
              go_upto_region 22 with fail
              obtain ⟨px, hpx⟩ : ∃ px : Pm, px = { p with ps := p.ps.set y mn, wa := some ⟨g1, 0, none⟩, wc := c1, na := some ⟨g2, 0, none⟩, nc := c2, pa := some ⟨g3, 0, none⟩, pc := qc } := ⟨_, rfl⟩
              have hpv : pmC px = #[vi p.years, vi p.slopes, .slice (some ⟨g1, 0, none⟩) p.ws.length c1, .slice (some ⟨g2, 0, none⟩) p.ns.length c2, .slice p.va p.vs.length p.vc, .slice (some ⟨g3, 0, none⟩) p.ps.length qc] := by rw [hpx]; simp
              have hpj : px.pj = { p.pj with purses := p.pj.purses.set y mn } := by rw [hpx]; rfl
              have HOW := Lib.hid ((H15.out.2.2.2.2.2.2.stored (y) (vi mn)).1)
              have HPK := Lib.hid (show PmOk px (wz.setCell ⟨g3, y, none⟩ (vi mn)) by
                  have ho := HOW.out
                  have e := flat_put (enc := intL) (s := 1) (fun _ => rfl) (x' := mn) (u := vi mn) (j := 0) (by omega) p.ps y mo HA.out rfl
                  rw [Nat.mul_one, Nat.add_zero] at e
                  rw [e] at ho
                  have h := HOK.out.next (H15.out.1.setCell (p := ⟨g3, y, none⟩) HG_g3.out (vi mn))
                  rw [hpx]
                  refine ⟨?_, ?_, ?_, h.vs, ?_⟩
                  · exact row_of_own (enc := wkL) (size := 6) (by omega) (fun _ => rfl) (own_set (i := y) H15.out.2.2.2.2.1 (fun e => (own_apart H15.out.2.2.2.2.1 H15.out.2.2.2.2.2.2 (by decide)).elim (fun h => by rw [h] at e; cases e) (fun h => h (e.trans rfl))) (vi mn))
                  · exact h.ad
                  · exact row_of_own (enc := ndL) (size := 3) (by omega) (fun _ => rfl) (own_set (i := y) H15.out.2.2.2.2.2.1 (fun e => (own_apart H15.out.2.2.2.2.2.1 H15.out.2.2.2.2.2.2 (by decide)).elim (fun h => by rw [h] at e; cases e) (fun h => h (e.trans rfl))) (vi mn))
                  · exact row_of_own (enc := intL) (size := 1) (by omega) (fun _ => rfl) (by simpa using ho))
              have HFX : Hid (PmFew px) := Lib.hid (more_few HF.out (by rw [hpx]; exact HF.out.ws) (by rw [hpx]; exact HF.out.ad) (by rw [hpx]; exact HF.out.ns) (by rw [hpx]) (by rw [hpx]; simpa using HF.out.ps))
              have HMO : Hid (faultN px.pj = 0 → MoreOk 0 p.pj px.pj) := Lib.hid (fun h => ⟨fun _ hb => by rw [hpj] at h ⊢; exact more_money HFZ.out HA.out HMB.out h hb, fun h => absurd h (by decide)⟩)
              have HPV := Lib.hid hpv
              refine genQ (fun X => newer w X ∧ Whole X w.heap.size 27 (pmC p) ∧ Whole X xb 27 (pmC px) ∧ PmOk px X) ⟨(H15.out.1.setCell (p := ⟨g3, y, none⟩) HG_g3.out (vi mn)), H15.out.2.1.far (p := ⟨g3, y, none⟩) (fun h => own_ne H15.out.2.2.2.2.2.2 H15.out.2.1 (by decide) (by rw [h]; rfl)) (vi mn), (by rw [HPV.out]; exact H15.out.2.2.2.1.far (p := ⟨g3, y, none⟩) (fun h => own_ne H15.out.2.2.2.2.2.2 H15.out.2.2.2.1 (by decide) (by rw [h]; rfl)) (vi mn)), HPK.out⟩ ?_
              rintro w16 ⟨g0_, g1_, g2_, g3_⟩
              have H17 := Lib.hid (And.intro (g0_) (And.intro (g1_) (And.intro (g2_) (g3_))))
              clear g0_ g1_ g2_ g3_ H15 z5 hpx hpv HOW HPK hpj hfr hcl hkl
              clear HPV
              have z0 := H17.out.2.2.1.at 0 (v := vi px.years) rfl
              have z1 := H17.out.2.2.1.at 1 (v := vi px.slopes) rfl
              have z2 := H17.out.2.2.1.at 2 (v := .slice px.wa px.ws.length px.wc) rfl
              have z3 := H17.out.2.2.1.at 3 (v := .slice px.na px.ns.length px.nc) rfl
              have z4 := H17.out.2.2.1.at 4 (v := .slice px.va px.vs.length px.vc) rfl
              have z5 := H17.out.2.2.1.at 5 (v := .slice px.pa px.ps.length px.pc) rfl
              obtain ⟨fx, hfx⟩ : ∃ fx, fx = faultN px.pj := ⟨_, rfl⟩
              have HFX2 := Lib.hid hfx
              have hrf := refFault px w16 H17.out.2.2.2 HFX.out
              rw [← hfx] at hrf
              have HRX := Lib.hid hrf
              clear hrf hfx
              go_wp2_with fail
              refine (HRX.out).mono ?_
              rintro e w18 ⟨rfl, hb⟩
              have H19 := Lib.hid (And.intro ((newer_trans H17.out.1 hb)) (And.intro ((H17.out.2.1.below hb H17.out.2.1.lt)) (And.intro ((H17.out.2.2.1.below hb H17.out.2.2.1.lt)) ((H17.out.2.2.2.next hb)))))
              clear hb HRX H17 z0 z1 z2 z3 z4 z5
              by_cases hf0 : fx = 0
              case neg =>
                have b2 : (fx != 0) = true := by simpa using hf0
                clear hf0
                go_wp2_with (go_at_call 17; refine (wakes_any _).mono ?_; rintro e w' ⟨rfl, hwk⟩; have HWK := Lib.hid (newer_trans H19.out.1 hwk); clear hwk)
                go_ret
                exact ⟨rfl, HWK.out⟩
              subst hf0
              obtain ⟨F, hF⟩ : ∃ F, F = bestE px.pj := ⟨_, rfl⟩
              have HFF := Lib.hid hF
              obtain ⟨cx, hcx⟩ : ∃ cx, cx = costOf (bestR px.pj) := ⟨_, rfl⟩
              have HCX := Lib.hid hcx
              obtain ⟨LX, hLX⟩ : ∃ LX, LX = bestL px.pj := ⟨_, rfl⟩
              have HTX := Lib.hid (few_of (fault_ok HFX2.out.symm))
              have HBX := Lib.hid (fun (p1 : Pm) (V : World) (hj : p1.pj = px.pj) (hok : PmOk p1 V) (hpc : p1.ps.length ≤ p1.pc) => best_list hj hok (few_of (pjOk_of (faultOk_iff.1 (by rw [hj]; exact HFX2.out.symm)))) hpc)
              rw [← hF, ← hcx, ← hLX] at HBX
              clear hF hcx hLX
              have hmo := HMO.out HFX2.out.symm
              unfold MoreOk at hmo
              rw [← HEE.out, ← HCQ.out, ← HFF.out, ← HCX.out] at hmo
              have HMX := Lib.hid hmo
              have HE2 : Hid (E = 0 ∨ E = 9) := Lib.hid (by rw [HEE.out]; exact bestE_9 HFZ.out)
              have HF2 : Hid (F = 0 ∨ F = 9) := Lib.hid (by rw [HFF.out]; exact bestE_9 HFX2.out.symm)
              clear hmo HMO
              have x0 := H19.out.2.1.at 0 (v := vi p.years) rfl
              have x1 := H19.out.2.1.at 1 (v := vi p.slopes) rfl
              have x2 := H19.out.2.1.at 2 (v := .slice p.wa p.ws.length p.wc) rfl
              have x3 := H19.out.2.1.at 3 (v := .slice p.na p.ns.length p.nc) rfl
              have x4 := H19.out.2.1.at 4 (v := .slice p.va p.vs.length p.vc) rfl
              have x5 := H19.out.2.1.at 5 (v := .slice p.pa p.ps.length p.pc) rfl
              go_wp2_with fail
              refine (lawProject p w18 (HOK.out.next H19.out.1) HF.out).mono ?_
              rintro e w20 ⟨⟨p1, rfl, hj1, ho1, hpc1⟩, hb⟩
              have HJ1 := Lib.hid (And.intro hj1 hpc1)
              clear hj1 hpc1
              have H21 := Lib.hid (And.intro ((newer_trans H19.out.1 hb)) (And.intro ((H19.out.2.1.below hb H19.out.2.1.lt)) (And.intro ((H19.out.2.2.1.below hb H19.out.2.2.1.lt)) (And.intro ((H19.out.2.2.2.next hb)) (ho1)))))
              clear hb ho1 H19 x0 x1 x2 x3 x4 x5
              go_wp2_with fail
              refine (HBP.out p1 _ HJ1.out.1 H21.out.2.2.2.2 HJ1.out.2).mono ?_
              rintro e w22 ⟨⟨A4, c4, rfl, -⟩, hb⟩
              have H23 := Lib.hid (And.intro ((newer_trans H21.out.1 hb)) (And.intro ((H21.out.2.1.below hb H21.out.2.1.lt)) (And.intro ((H21.out.2.2.1.below hb H21.out.2.2.1.lt)) ((H21.out.2.2.2.1.next hb)))))
              clear hb HJ1 HBP H21
              have z0 := H23.out.2.2.1.at 0 (v := vi px.years) rfl
              have z1 := H23.out.2.2.1.at 1 (v := vi px.slopes) rfl
              have z2 := H23.out.2.2.1.at 2 (v := .slice px.wa px.ws.length px.wc) rfl
              have z3 := H23.out.2.2.1.at 3 (v := .slice px.na px.ns.length px.nc) rfl
              have z4 := H23.out.2.2.1.at 4 (v := .slice px.va px.vs.length px.vc) rfl
              have z5 := H23.out.2.2.1.at 5 (v := .slice px.pa px.ps.length px.pc) rfl
              go_wp2_with fail
              refine (lawProject px w22 H23.out.2.2.2 HTX.out).mono ?_
              rintro e w24 ⟨⟨p1, rfl, hj1, ho1, hpc1⟩, hb⟩
              have HJ1 := Lib.hid (And.intro hj1 hpc1)
              clear hj1 hpc1
              have H25 := Lib.hid (And.intro ((newer_trans H23.out.1 hb)) (And.intro ((H23.out.2.1.below hb H23.out.2.1.lt)) (And.intro ((H23.out.2.2.1.below hb H23.out.2.2.1.lt)) (And.intro ((H23.out.2.2.2.next hb)) (ho1)))))
              clear hb ho1 H23 z0 z1 z2 z3 z4 z5
              go_wp2_with fail
              refine (HBX.out p1 _ HJ1.out.1 H25.out.2.2.2.2 HJ1.out.2).mono ?_
              rintro e w26 ⟨⟨A5, c5, rfl, -⟩, hb⟩
              have H27 := Lib.hid (And.intro ((newer_trans H25.out.1 hb)) (And.intro ((H25.out.2.1.below hb H25.out.2.1.lt)) (And.intro ((H25.out.2.2.1.below hb H25.out.2.2.1.lt)) ((H25.out.2.2.2.1.next hb)))))
              clear hb HJ1 HBX H25
              have h10 := HB.out.1
              have h11 := HB.out.2.1
              have em := HM.out.1
              have em2 : a1 % 6 = 0 := by rw [← Int.tmod_eq_emod_of_nonneg h10]; exact em
              rcases HE2.out with he | he <;> rcases HF2.out with hf | hf
              · have hle := (HMX.out.1 (by decide) he).2
                subst he
                subst hf
                go_wp2_with (go_at_call 17; refine (wakes_any _).mono ?_; rintro e w' ⟨rfl, hwk⟩; have HWK := Lib.hid (newer_trans H27.out.1 hwk); clear hwk)
                go_ret
                exact ⟨rfl, HWK.out⟩
              · exact absurd (hf.symm.trans (HMX.out.1 (by decide) he).1) (by decide)
              · subst he
                subst hf
                go_wp2_with (go_at_call 17; refine (wakes_any _).mono ?_; rintro e w' ⟨rfl, hwk⟩; have HWK := Lib.hid (newer_trans H27.out.1 hwk); clear hwk)
                go_ret
                exact ⟨rfl, HWK.out⟩
              · subst he
                subst hf
                go_wp2_with (go_at_call 17; refine (wakes_any _).mono ?_; rintro e w' ⟨rfl, hwk⟩; have HWK := Lib.hid (newer_trans H27.out.1 hwk); clear hwk)
                go_ret
                exact ⟨rfl, HWK.out⟩
          · go_upto_region 12 with fail
            clear c54 ek hne em em2
            obtain ⟨b2, o2, e2, _, d0, d1, d2, d3, d4, d5⟩ := row6 (row_of_own (enc := wkL) (size := 6) (by omega) (fun _ => rfl) H14.out.2.2.2.2.1) HX.out
            simp only [Option.some.injEq, Addr.mk.injEq, and_true] at e2
            obtain ⟨rfl, rfl⟩ := e2
            simp only [Nat.zero_add] at d0
            clear d1 d2 d3 d4 d5
            have hpr := HWB.out.1
            obtain ⟨ag, hga⟩ : ∃ ag, ag = x.d.price - a3 := ⟨_, rfl⟩
            obtain ⟨mn, hmn⟩ : ∃ mn, mn = mxI 1 ag := ⟨_, rfl⟩
            have HMB : Hid (mn ≤ x.d.price ∧ 0 ≤ mn) := Lib.hid (by rw [hmn]; unfold mxI; split <;> omega)
            have HMN := Lib.hid hmn
            have c62 : IntKind.i64.wrap a3 = a3 := IntWalk.i64_in _ (by omega)
            have c63 : IntKind.i64.wrap (x.d.price - a3) = ag := by rw [← hga]; exact IntWalk.i64_in _ (by omega)
            have hkl := HK.out.2
            clear hga hmn hpr h10 h11 h20 h21 h30 h31
            refine wp_words (by kernel_rfl) (region_told 13 (by kernel_rfl) (by kernel_rfl) (fun W => Below w13.heap.size w13 W) newer (pickD [vIs (.pointer (some ⟨xb, 2, none⟩)), vIs (.slice (some ⟨g1, 0, none⟩) p.ws.length c1), vIs (.int .i64 k), vIs (.pointer (some ⟨xb, 2, none⟩)), vIs (.slice (some ⟨g1, 0, none⟩) p.ws.length c1), vIs (.int .i64 k), vIs (.pointer (some ⟨g1, k * 6, none⟩)), vIs (.pointer (some ⟨g1, k * 6, none⟩)), vIs (vi x.d.price), vIs (.int .u16 a3), vIs (vi a3), vIs (vi ag), vIs (vi mn)]) (fun h k => newer_trans h k) (pickD_stable _ ⟨vIs_st, vIs_st, vIs_st, vIs_st, vIs_st, vIs_st, vIs_st, vIs_st, vIs_st, vIs_st, vIs_st, vIs_st, vIs_st, trivial⟩) (Below.refl _ w13).drew (Below.refl _ _) ?_ ?_)
            · refine ⟨?_, ?_, ?_, ?_, ?_, ?_, ?_, ?_, ?_, ?_, ?_, ?_, ?_, trivial⟩
              · intro a W hG hR hO hp
                have h11 := hO.slot 11 (by kernel_rfl)
                refine wp_yields (v := .pointer (some ⟨xb, 2, none⟩)) ?_ ⟨_, rfl, rfl, Below.refl _ _, hG⟩
                simp [slotOf] at h11
                simp [execOp, go_sem, h11]
              · intro a W hG hR hO hp
                have h90 : slotOf a 90 = .pointer (some ⟨xb, 2, none⟩) := hp.1
                have c0 := keep_cell z2 hG
                refine wp_yields (v := .slice (some ⟨g1, 0, none⟩) p.ws.length c1) ?_ ⟨_, rfl, rfl, Below.refl _ _, hG⟩
                simp [slotOf] at h90
                simp [execOp, go_sem, h90, c0]
              · intro a W hG hR hO hp
                have h12 := hO.slot 12 (by kernel_rfl)
                refine wp_yields (v := .int .i64 k) ?_ ⟨_, rfl, rfl, Below.refl _ _, hG⟩
                simp [slotOf] at h12
                simp [execOp, go_sem, h12]
              · intro a W hG hR hO hp
                have h11 := hO.slot 11 (by kernel_rfl)
                refine wp_yields (v := .pointer (some ⟨xb, 2, none⟩)) ?_ ⟨_, rfl, rfl, Below.refl _ _, hG⟩
                simp [slotOf] at h11
                simp [execOp, go_sem, h11]
              · intro a W hG hR hO hp
                have h93 : slotOf a 93 = .pointer (some ⟨xb, 2, none⟩) := hp.1
                have c0 := keep_cell z2 hG
                refine wp_yields (v := .slice (some ⟨g1, 0, none⟩) p.ws.length c1) ?_ ⟨_, rfl, rfl, Below.refl _ _, hG⟩
                simp [slotOf] at h93
                simp [execOp, go_sem, h93, c0]
              · intro a W hG hR hO hp
                have h12 := hO.slot 12 (by kernel_rfl)
                refine wp_yields (v := .int .i64 k) ?_ ⟨_, rfl, rfl, Below.refl _ _, hG⟩
                simp [slotOf] at h12
                simp [execOp, go_sem, h12]
              · intro a W hG hR hO hp
                have h94 : slotOf a 94 = .slice (some ⟨g1, 0, none⟩) p.ws.length c1 := hp.1
                have h95 : slotOf a 95 = .int .i64 k := hp.2.1
                refine wp_yields (v := .pointer (some ⟨g1, k * 6, none⟩)) ?_ ⟨_, rfl, rfl, Below.refl _ _, hG⟩
                simp [slotOf] at h94 h95
                simp [execOp, go_sem, h94, h95, hkl]
              · intro a W hG hR hO hp
                have h96 : slotOf a 96 = .pointer (some ⟨g1, k * 6, none⟩) := hp.1
                refine wp_yields (v := .pointer (some ⟨g1, k * 6, none⟩)) ?_ ⟨_, rfl, rfl, Below.refl _ _, hG⟩
                simp [slotOf] at h96
                simp [execOp, go_sem, h96]
              · intro a W hG hR hO hp
                have h97 : slotOf a 97 = .pointer (some ⟨g1, k * 6, none⟩) := hp.1
                have c0 := keep_cell d0 hG
                refine wp_yields (v := vi x.d.price) ?_ ⟨_, rfl, rfl, Below.refl _ _, hG⟩
                simp [slotOf] at h97
                simp [execOp, go_sem, h97, c0]
              · intro a W hG hR hO hp
                have h3 := hO.slot 3 (by kernel_rfl)
                refine wp_yields (v := .int .u16 a3) ?_ ⟨_, rfl, rfl, Below.refl _ _, hG⟩
                simp [slotOf] at h3
                simp [execOp, go_sem, h3]
              · intro a W hG hR hO hp
                have h99 : slotOf a 99 = .int .u16 a3 := hp.1
                refine wp_yields (v := vi a3) ?_ ⟨_, rfl, rfl, Below.refl _ _, hG⟩
                simp [slotOf] at h99
                simp [execOp, go_sem, h99, c62]
              · intro a W hG hR hO hp
                have h98 : slotOf a 98 = vi x.d.price := hp.1
                have h100 : slotOf a 100 = vi a3 := hp.2.1
                refine wp_yields (v := vi ag) ?_ ⟨_, rfl, rfl, Below.refl _ _, hG⟩
                simp [slotOf] at h98 h100
                simp [execOp, go_sem, h98, h100, c63]
              · intro a W hG hR hO hp
                have h101 : slotOf a 101 = vi ag := hp.1
                refine wp_yields (v := vi mn) ?_ ⟨_, rfl, rfl, Below.refl _ _, hG⟩
                simp [slotOf] at h101
                simp [go_sem, h101, HMN.out, mxI]
            · intro wz hG hR
              rintro _ rfl _ rfl _ rfl _ rfl _ rfl _ rfl _ rfl _ rfl _ rfl _ rfl _ rfl _ rfl _ rfl
              change wpList _ _ _ _ _ _
              simp only [Act.put, List.setIfInBounds_toArray, List.set_cons_zero, List.set_cons_succ, List.drop_succ_cons, List.drop_zero]
              have d0a := keep_cell d0 hG
              clear hR c62 c63 d0
              have H28 := Lib.hid (And.intro ((newer_trans H14.out.1 hG)) (And.intro ((H14.out.2.1.below hG H14.out.2.1.lt)) (And.intro ((H14.out.2.2.1.below hG H14.out.2.2.1.lt)) (And.intro ((H14.out.2.2.2.1.below hG H14.out.2.2.2.1.lt)) (And.intro ((own_below H14.out.2.2.2.2.1 hG)) (And.intro ((own_below H14.out.2.2.2.2.2.1 hG)) ((own_below H14.out.2.2.2.2.2.2 hG))))))))
              clear hG H14 z0 z1 z2 z3 z4 z5 x0 x1 x2 x3 x4 x5 hw0 hn0 hp0 hwn hnn
              have z2 := H28.out.2.2.2.1.at 2 (v := .slice (some ⟨g1, 0, none⟩) p.ws.length c1) rfl
              have hfr := H28.out.2.2.2.2.1.frozenAt (k * 6)
              go_upto_region 22 with fail
              obtain ⟨px, hpx⟩ : ∃ px : Pm, px = { p with ws := p.ws.set k { x with d := { x.d with price := mn } }, wa := some ⟨g1, 0, none⟩, wc := c1, na := some ⟨g2, 0, none⟩, nc := c2, pa := some ⟨g3, 0, none⟩, pc := qc } := ⟨_, rfl⟩
              have hpv : pmC px = #[vi p.years, vi p.slopes, .slice (some ⟨g1, 0, none⟩) p.ws.length c1, .slice (some ⟨g2, 0, none⟩) p.ns.length c2, .slice p.va p.vs.length p.vc, .slice (some ⟨g3, 0, none⟩) p.ps.length qc] := by rw [hpx]; simp
              have hpj : px.pj = { p.pj with works := p.pj.works.set k { x.d with price := mn } } := by
                rw [hpx]
                simp only [Pm.pj, List.map_set]
              have HOW := Lib.hid ((H28.out.2.2.2.2.1.stored (k * 6) (vi mn)).1)
              have HPK := Lib.hid (show PmOk px (wz.setCell ⟨g1, k * 6, none⟩ (vi mn)) by
                  have ho := HOW.out
                  have e := flat_put (enc := wkL) (s := 6) (fun _ => rfl) (x' := { x with d := { x.d with price := mn } }) (u := vi mn) (j := 0) (by omega) p.ws k x HX.out rfl
                  rw [Nat.add_zero] at e
                  rw [e] at ho
                  have h := HOK.out.next (H28.out.1.setCell (p := ⟨g1, k * 6, none⟩) HG_g1.out (vi mn))
                  rw [hpx]
                  refine ⟨?_, ?_, ?_, h.vs, ?_⟩
                  · exact row_of_own (enc := wkL) (size := 6) (by omega) (fun _ => rfl) (by simpa using ho)
                  · intro z hz
                    rcases List.mem_or_eq_of_mem_set hz with hz | rfl
                    · exact h.ad z hz
                    · exact h.ad x (List.mem_of_getElem? HX.out)
                  · exact row_of_own (enc := ndL) (size := 3) (by omega) (fun _ => rfl) (own_set (i := k * 6) H28.out.2.2.2.2.2.1 (fun e => (own_apart H28.out.2.2.2.2.2.1 H28.out.2.2.2.2.1 (by decide)).elim (fun h => by rw [h] at e; cases e) (fun h => h (e.trans rfl))) (vi mn))
                  · exact row_of_own (enc := intL) (size := 1) (by omega) (fun _ => rfl) (own_set (i := k * 6) H28.out.2.2.2.2.2.2 (fun e => (own_apart H28.out.2.2.2.2.2.2 H28.out.2.2.2.2.1 (by decide)).elim (fun h => by rw [h] at e; cases e) (fun h => h (e.trans rfl))) (vi mn)))
              have HFX : Hid (PmFew px) := Lib.hid (more_few HF.out (by rw [hpx]; simpa using HF.out.ws) (by rw [hpx]; (intro z hz; rcases List.mem_or_eq_of_mem_set hz with hz | rfl; exact HF.out.ad z hz; (have h := HF.out.ad x (List.mem_of_getElem? HX.out); simpa using h))) (by rw [hpx]; exact HF.out.ns) (by rw [hpx]) (by rw [hpx]; exact HF.out.ps))
              have HMO : Hid (faultN px.pj = 0 → MoreOk 1 p.pj px.pj) := Lib.hid (fun h => ⟨fun _ hb => by rw [hpj] at h ⊢; exact cheaper_work HFZ.out HQ.out HMB.out.1 h hb, fun h => absurd h (by decide)⟩)
              have HPV := Lib.hid hpv
              refine genQ (fun X => newer w X ∧ Whole X w.heap.size 27 (pmC p) ∧ Whole X xb 27 (pmC px) ∧ PmOk px X) ⟨(H28.out.1.setCell (p := ⟨g1, k * 6, none⟩) HG_g1.out (vi mn)), H28.out.2.1.far (p := ⟨g1, k * 6, none⟩) (fun h => own_ne H28.out.2.2.2.2.1 H28.out.2.1 (by decide) (by rw [h]; rfl)) (vi mn), (by rw [HPV.out]; exact H28.out.2.2.2.1.far (p := ⟨g1, k * 6, none⟩) (fun h => own_ne H28.out.2.2.2.2.1 H28.out.2.2.2.1 (by decide) (by rw [h]; rfl)) (vi mn)), HPK.out⟩ ?_
              rintro w29 ⟨g0_, g1_, g2_, g3_⟩
              have H30 := Lib.hid (And.intro (g0_) (And.intro (g1_) (And.intro (g2_) (g3_))))
              clear g0_ g1_ g2_ g3_ H28 z2 hpx hpv HOW HPK hpj hfr d0a hkl
              clear HPV
              have z0 := H30.out.2.2.1.at 0 (v := vi px.years) rfl
              have z1 := H30.out.2.2.1.at 1 (v := vi px.slopes) rfl
              have z2 := H30.out.2.2.1.at 2 (v := .slice px.wa px.ws.length px.wc) rfl
              have z3 := H30.out.2.2.1.at 3 (v := .slice px.na px.ns.length px.nc) rfl
              have z4 := H30.out.2.2.1.at 4 (v := .slice px.va px.vs.length px.vc) rfl
              have z5 := H30.out.2.2.1.at 5 (v := .slice px.pa px.ps.length px.pc) rfl
              obtain ⟨fx, hfx⟩ : ∃ fx, fx = faultN px.pj := ⟨_, rfl⟩
              have HFX2 := Lib.hid hfx
              have hrf := refFault px w29 H30.out.2.2.2 HFX.out
              rw [← hfx] at hrf
              have HRX := Lib.hid hrf
              clear hrf hfx
              go_wp2_with fail
              refine (HRX.out).mono ?_
              rintro e w31 ⟨rfl, hb⟩
              have H32 := Lib.hid (And.intro ((newer_trans H30.out.1 hb)) (And.intro ((H30.out.2.1.below hb H30.out.2.1.lt)) (And.intro ((H30.out.2.2.1.below hb H30.out.2.2.1.lt)) ((H30.out.2.2.2.next hb)))))
              clear hb HRX H30 z0 z1 z2 z3 z4 z5
              by_cases hf0 : fx = 0
              case neg =>
                have b2 : (fx != 0) = true := by simpa using hf0
                clear hf0
                go_wp2_with (go_at_call 17; refine (wakes_any _).mono ?_; rintro e w' ⟨rfl, hwk⟩; have HWK := Lib.hid (newer_trans H32.out.1 hwk); clear hwk)
                go_ret
                exact ⟨rfl, HWK.out⟩
              subst hf0
              obtain ⟨F, hF⟩ : ∃ F, F = bestE px.pj := ⟨_, rfl⟩
              have HFF := Lib.hid hF
              obtain ⟨cx, hcx⟩ : ∃ cx, cx = costOf (bestR px.pj) := ⟨_, rfl⟩
              have HCX := Lib.hid hcx
              obtain ⟨LX, hLX⟩ : ∃ LX, LX = bestL px.pj := ⟨_, rfl⟩
              have HTX := Lib.hid (few_of (fault_ok HFX2.out.symm))
              have HBX := Lib.hid (fun (p1 : Pm) (V : World) (hj : p1.pj = px.pj) (hok : PmOk p1 V) (hpc : p1.ps.length ≤ p1.pc) => best_list hj hok (few_of (pjOk_of (faultOk_iff.1 (by rw [hj]; exact HFX2.out.symm)))) hpc)
              rw [← hF, ← hcx, ← hLX] at HBX
              clear hF hcx hLX
              have hmo := HMO.out HFX2.out.symm
              unfold MoreOk at hmo
              rw [← HEE.out, ← HCQ.out, ← HFF.out, ← HCX.out] at hmo
              have HMX := Lib.hid hmo
              have HE2 : Hid (E = 0 ∨ E = 9) := Lib.hid (by rw [HEE.out]; exact bestE_9 HFZ.out)
              have HF2 : Hid (F = 0 ∨ F = 9) := Lib.hid (by rw [HFF.out]; exact bestE_9 HFX2.out.symm)
              clear hmo HMO
              have x0 := H32.out.2.1.at 0 (v := vi p.years) rfl
              have x1 := H32.out.2.1.at 1 (v := vi p.slopes) rfl
              have x2 := H32.out.2.1.at 2 (v := .slice p.wa p.ws.length p.wc) rfl
              have x3 := H32.out.2.1.at 3 (v := .slice p.na p.ns.length p.nc) rfl
              have x4 := H32.out.2.1.at 4 (v := .slice p.va p.vs.length p.vc) rfl
              have x5 := H32.out.2.1.at 5 (v := .slice p.pa p.ps.length p.pc) rfl
              go_wp2_with fail
              refine (lawProject p w31 (HOK.out.next H32.out.1) HF.out).mono ?_
              rintro e w33 ⟨⟨p1, rfl, hj1, ho1, hpc1⟩, hb⟩
              have HJ1 := Lib.hid (And.intro hj1 hpc1)
              clear hj1 hpc1
              have H34 := Lib.hid (And.intro ((newer_trans H32.out.1 hb)) (And.intro ((H32.out.2.1.below hb H32.out.2.1.lt)) (And.intro ((H32.out.2.2.1.below hb H32.out.2.2.1.lt)) (And.intro ((H32.out.2.2.2.next hb)) (ho1)))))
              clear hb ho1 H32 x0 x1 x2 x3 x4 x5
              go_wp2_with fail
              refine (HBP.out p1 _ HJ1.out.1 H34.out.2.2.2.2 HJ1.out.2).mono ?_
              rintro e w35 ⟨⟨A4, c4, rfl, -⟩, hb⟩
              have H36 := Lib.hid (And.intro ((newer_trans H34.out.1 hb)) (And.intro ((H34.out.2.1.below hb H34.out.2.1.lt)) (And.intro ((H34.out.2.2.1.below hb H34.out.2.2.1.lt)) ((H34.out.2.2.2.1.next hb)))))
              clear hb HJ1 HBP H34
              have z0 := H36.out.2.2.1.at 0 (v := vi px.years) rfl
              have z1 := H36.out.2.2.1.at 1 (v := vi px.slopes) rfl
              have z2 := H36.out.2.2.1.at 2 (v := .slice px.wa px.ws.length px.wc) rfl
              have z3 := H36.out.2.2.1.at 3 (v := .slice px.na px.ns.length px.nc) rfl
              have z4 := H36.out.2.2.1.at 4 (v := .slice px.va px.vs.length px.vc) rfl
              have z5 := H36.out.2.2.1.at 5 (v := .slice px.pa px.ps.length px.pc) rfl
              go_wp2_with fail
              refine (lawProject px w35 H36.out.2.2.2 HTX.out).mono ?_
              rintro e w37 ⟨⟨p1, rfl, hj1, ho1, hpc1⟩, hb⟩
              have HJ1 := Lib.hid (And.intro hj1 hpc1)
              clear hj1 hpc1
              have H38 := Lib.hid (And.intro ((newer_trans H36.out.1 hb)) (And.intro ((H36.out.2.1.below hb H36.out.2.1.lt)) (And.intro ((H36.out.2.2.1.below hb H36.out.2.2.1.lt)) (And.intro ((H36.out.2.2.2.next hb)) (ho1)))))
              clear hb ho1 H36 z0 z1 z2 z3 z4 z5
              go_wp2_with fail
              refine (HBX.out p1 _ HJ1.out.1 H38.out.2.2.2.2 HJ1.out.2).mono ?_
              rintro e w39 ⟨⟨A5, c5, rfl, -⟩, hb⟩
              have H40 := Lib.hid (And.intro ((newer_trans H38.out.1 hb)) (And.intro ((H38.out.2.1.below hb H38.out.2.1.lt)) (And.intro ((H38.out.2.2.1.below hb H38.out.2.2.1.lt)) ((H38.out.2.2.2.1.next hb)))))
              clear hb HJ1 HBX H38
              have h10 := HB.out.1
              have h11 := HB.out.2.1
              have em := HM.out.1
              have em2 : a1 % 6 = 1 := by rw [← Int.tmod_eq_emod_of_nonneg h10]; exact em
              rcases HE2.out with he | he <;> rcases HF2.out with hf | hf
              · have hle := (HMX.out.1 (by decide) he).2
                subst he
                subst hf
                go_wp2_with (go_at_call 17; refine (wakes_any _).mono ?_; rintro e w' ⟨rfl, hwk⟩; have HWK := Lib.hid (newer_trans H40.out.1 hwk); clear hwk)
                go_ret
                exact ⟨rfl, HWK.out⟩
              · exact absurd (hf.symm.trans (HMX.out.1 (by decide) he).1) (by decide)
              · subst he
                subst hf
                go_wp2_with (go_at_call 17; refine (wakes_any _).mono ?_; rintro e w' ⟨rfl, hwk⟩; have HWK := Lib.hid (newer_trans H40.out.1 hwk); clear hwk)
                go_ret
                exact ⟨rfl, HWK.out⟩
              · subst he
                subst hf
                go_wp2_with (go_at_call 17; refine (wakes_any _).mono ?_; rintro e w' ⟨rfl, hwk⟩; have HWK := Lib.hid (newer_trans H40.out.1 hwk); clear hwk)
                go_ret
                exact ⟨rfl, HWK.out⟩
          · have ei := HI.out.1
            have hpe : ¬ (p.ns = []) := by intro h; rw [h] at hn0; exact hn0 rfl
            go_upto_region 15 with fail
            clear ei hpe c54 ek hne em em2
            obtain ⟨n, hn⟩ := get_of_lt (l := p.ns) (k := i) (by have := HI.out.2; omega)
            have HA := Lib.hid hn
            have hab := (plOk_of HFO.out).ns n (List.mem_of_getElem? (l := p.pj.needs) hn)
            have hab2 := HFO.out.ns n (List.mem_of_getElem? (l := p.pj.needs) hn)
            simp only [ndB, inB, Bool.and_eq_true, decide_eq_true_eq] at hab2
            obtain ⟨b2, o2, e2, _, d0, d1, d2⟩ := row3 (row_of_own (enc := ndL) (size := 3) (by omega) (fun _ => rfl) H14.out.2.2.2.2.2.1) hn
            simp only [Option.some.injEq, Addr.mk.injEq, and_true] at e2
            obtain ⟨rfl, rfl⟩ := e2
            simp only [Nat.zero_add] at d2
            clear d0 d1
            obtain ⟨ag, hga⟩ : ∃ ag, ag = n.due - a3 := ⟨_, rfl⟩
            obtain ⟨mn, hmn⟩ : ∃ mn, mn = mxI 1 ag := ⟨_, rfl⟩
            have HMB : Hid (mn ≤ n.due) := Lib.hid (by rw [hmn]; unfold mxI; split <;> omega)
            have HMN := Lib.hid hmn
            have c62 : IntKind.i64.wrap a3 = a3 := IntWalk.i64_in _ (by omega)
            have c63 : IntKind.i64.wrap (n.due - a3) = ag := by rw [← hga]; exact IntWalk.i64_in _ (by omega)
            have hkl := HI.out.2
            clear hga hmn hab hab2 hn h10 h11 h20 h21 h30 h31
            refine wp_words (by kernel_rfl) (region_told 13 (by kernel_rfl) (by kernel_rfl) (fun W => Below w13.heap.size w13 W) newer (pickD [vIs (.pointer (some ⟨xb, 3, none⟩)), vIs (.slice (some ⟨g2, 0, none⟩) p.ns.length c2), vIs (.int .i64 i), vIs (.pointer (some ⟨xb, 3, none⟩)), vIs (.slice (some ⟨g2, 0, none⟩) p.ns.length c2), vIs (.int .i64 i), vIs (.pointer (some ⟨g2, i * 3, none⟩)), vIs (.pointer (some ⟨g2, i * 3 + 2, none⟩)), vIs (vi n.due), vIs (.int .u16 a3), vIs (vi a3), vIs (vi ag), vIs (vi mn)]) (fun h k => newer_trans h k) (pickD_stable _ ⟨vIs_st, vIs_st, vIs_st, vIs_st, vIs_st, vIs_st, vIs_st, vIs_st, vIs_st, vIs_st, vIs_st, vIs_st, vIs_st, trivial⟩) (Below.refl _ w13).drew (Below.refl _ _) ?_ ?_)
            · refine ⟨?_, ?_, ?_, ?_, ?_, ?_, ?_, ?_, ?_, ?_, ?_, ?_, ?_, trivial⟩
              · intro a W hG hR hO hp
                have h11 := hO.slot 11 (by kernel_rfl)
                refine wp_yields (v := .pointer (some ⟨xb, 3, none⟩)) ?_ ⟨_, rfl, rfl, Below.refl _ _, hG⟩
                simp [slotOf] at h11
                simp [execOp, go_sem, h11]
              · intro a W hG hR hO hp
                have h113 : slotOf a 113 = .pointer (some ⟨xb, 3, none⟩) := hp.1
                have c0 := keep_cell z3 hG
                refine wp_yields (v := .slice (some ⟨g2, 0, none⟩) p.ns.length c2) ?_ ⟨_, rfl, rfl, Below.refl _ _, hG⟩
                simp [slotOf] at h113
                simp [execOp, go_sem, h113, c0]
              · intro a W hG hR hO hp
                have h14 := hO.slot 14 (by kernel_rfl)
                refine wp_yields (v := .int .i64 i) ?_ ⟨_, rfl, rfl, Below.refl _ _, hG⟩
                simp [slotOf] at h14
                simp [execOp, go_sem, h14]
              · intro a W hG hR hO hp
                have h11 := hO.slot 11 (by kernel_rfl)
                refine wp_yields (v := .pointer (some ⟨xb, 3, none⟩)) ?_ ⟨_, rfl, rfl, Below.refl _ _, hG⟩
                simp [slotOf] at h11
                simp [execOp, go_sem, h11]
              · intro a W hG hR hO hp
                have h116 : slotOf a 116 = .pointer (some ⟨xb, 3, none⟩) := hp.1
                have c0 := keep_cell z3 hG
                refine wp_yields (v := .slice (some ⟨g2, 0, none⟩) p.ns.length c2) ?_ ⟨_, rfl, rfl, Below.refl _ _, hG⟩
                simp [slotOf] at h116
                simp [execOp, go_sem, h116, c0]
              · intro a W hG hR hO hp
                have h14 := hO.slot 14 (by kernel_rfl)
                refine wp_yields (v := .int .i64 i) ?_ ⟨_, rfl, rfl, Below.refl _ _, hG⟩
                simp [slotOf] at h14
                simp [execOp, go_sem, h14]
              · intro a W hG hR hO hp
                have h117 : slotOf a 117 = .slice (some ⟨g2, 0, none⟩) p.ns.length c2 := hp.1
                have h118 : slotOf a 118 = .int .i64 i := hp.2.1
                refine wp_yields (v := .pointer (some ⟨g2, i * 3, none⟩)) ?_ ⟨_, rfl, rfl, Below.refl _ _, hG⟩
                simp [slotOf] at h117 h118
                simp [execOp, go_sem, h117, h118, hkl]
              · intro a W hG hR hO hp
                have h119 : slotOf a 119 = .pointer (some ⟨g2, i * 3, none⟩) := hp.1
                refine wp_yields (v := .pointer (some ⟨g2, i * 3 + 2, none⟩)) ?_ ⟨_, rfl, rfl, Below.refl _ _, hG⟩
                simp [slotOf] at h119
                simp [execOp, go_sem, h119]
              · intro a W hG hR hO hp
                have h120 : slotOf a 120 = .pointer (some ⟨g2, i * 3 + 2, none⟩) := hp.1
                have c0 := keep_cell d2 hG
                refine wp_yields (v := vi n.due) ?_ ⟨_, rfl, rfl, Below.refl _ _, hG⟩
                simp [slotOf] at h120
                simp [execOp, go_sem, h120, c0]
              · intro a W hG hR hO hp
                have h3 := hO.slot 3 (by kernel_rfl)
                refine wp_yields (v := .int .u16 a3) ?_ ⟨_, rfl, rfl, Below.refl _ _, hG⟩
                simp [slotOf] at h3
                simp [execOp, go_sem, h3]
              · intro a W hG hR hO hp
                have h122 : slotOf a 122 = .int .u16 a3 := hp.1
                refine wp_yields (v := vi a3) ?_ ⟨_, rfl, rfl, Below.refl _ _, hG⟩
                simp [slotOf] at h122
                simp [execOp, go_sem, h122, c62]
              · intro a W hG hR hO hp
                have h121 : slotOf a 121 = vi n.due := hp.1
                have h123 : slotOf a 123 = vi a3 := hp.2.1
                refine wp_yields (v := vi ag) ?_ ⟨_, rfl, rfl, Below.refl _ _, hG⟩
                simp [slotOf] at h121 h123
                simp [execOp, go_sem, h121, h123, c63]
              · intro a W hG hR hO hp
                have h124 : slotOf a 124 = vi ag := hp.1
                refine wp_yields (v := vi mn) ?_ ⟨_, rfl, rfl, Below.refl _ _, hG⟩
                simp [slotOf] at h124
                simp [go_sem, h124, HMN.out, mxI]
            · intro wz hG hR
              rintro _ rfl _ rfl _ rfl _ rfl _ rfl _ rfl _ rfl _ rfl _ rfl _ rfl _ rfl _ rfl _ rfl
              change wpList _ _ _ _ _ _
              simp only [Act.put, List.setIfInBounds_toArray, List.set_cons_zero, List.set_cons_succ, List.drop_succ_cons, List.drop_zero]
              have d2a := keep_cell d2 hG
              clear hR c62 c63 d2
              have H41 := Lib.hid (And.intro ((newer_trans H14.out.1 hG)) (And.intro ((H14.out.2.1.below hG H14.out.2.1.lt)) (And.intro ((H14.out.2.2.1.below hG H14.out.2.2.1.lt)) (And.intro ((H14.out.2.2.2.1.below hG H14.out.2.2.2.1.lt)) (And.intro ((own_below H14.out.2.2.2.2.1 hG)) (And.intro ((own_below H14.out.2.2.2.2.2.1 hG)) ((own_below H14.out.2.2.2.2.2.2 hG))))))))
              clear hG H14 z0 z1 z2 z3 z4 z5 x0 x1 x2 x3 x4 x5 hw0 hn0 hp0 hwn hnn
              have hfr := H41.out.2.2.2.2.2.1.frozenAt (i * 3 + 2)
              go_upto_region 22 with fail
              obtain ⟨px, hpx⟩ : ∃ px : Pm, px = { p with ns := p.ns.set i { n with due := mn }, wa := some ⟨g1, 0, none⟩, wc := c1, na := some ⟨g2, 0, none⟩, nc := c2, pa := some ⟨g3, 0, none⟩, pc := qc } := ⟨_, rfl⟩
              have hpv : pmC px = #[vi p.years, vi p.slopes, .slice (some ⟨g1, 0, none⟩) p.ws.length c1, .slice (some ⟨g2, 0, none⟩) p.ns.length c2, .slice p.va p.vs.length p.vc, .slice (some ⟨g3, 0, none⟩) p.ps.length qc] := by rw [hpx]; simp
              have hpj : px.pj = { p.pj with needs := p.pj.needs.set i { n with due := mn } } := by rw [hpx]; rfl
              have HOW := Lib.hid ((H41.out.2.2.2.2.2.1.stored (i * 3 + 2) (vi mn)).1)
              have HPK := Lib.hid (show PmOk px (wz.setCell ⟨g2, i * 3 + 2, none⟩ (vi mn)) by
                  have ho := HOW.out
                  rw [flat_put (enc := ndL) (s := 3) (fun _ => rfl) (x' := { n with due := mn }) (u := vi mn) (j := 2) (by omega) p.ns i n HA.out rfl] at ho
                  have h := HOK.out.next (H41.out.1.setCell (p := ⟨g2, i * 3 + 2, none⟩) HG_g2.out (vi mn))
                  rw [hpx]
                  refine ⟨?_, ?_, ?_, h.vs, ?_⟩
                  · exact row_of_own (enc := wkL) (size := 6) (by omega) (fun _ => rfl) (own_set (i := i * 3 + 2) H41.out.2.2.2.2.1 (fun e => (own_apart H41.out.2.2.2.2.1 H41.out.2.2.2.2.2.1 (by decide)).elim (fun h => by rw [h] at e; cases e) (fun h => h (e.trans rfl))) (vi mn))
                  · exact h.ad
                  · exact row_of_own (enc := ndL) (size := 3) (by omega) (fun _ => rfl) (by simpa using ho)
                  · exact row_of_own (enc := intL) (size := 1) (by omega) (fun _ => rfl) (own_set (i := i * 3 + 2) H41.out.2.2.2.2.2.2 (fun e => (own_apart H41.out.2.2.2.2.2.2 H41.out.2.2.2.2.2.1 (by decide)).elim (fun h => by rw [h] at e; cases e) (fun h => h (e.trans rfl))) (vi mn)))
              have HFX : Hid (PmFew px) := Lib.hid (more_few HF.out (by rw [hpx]; exact HF.out.ws) (by rw [hpx]; exact HF.out.ad) (by rw [hpx]; simpa using HF.out.ns) (by rw [hpx]) (by rw [hpx]; exact HF.out.ps))
              have HMO : Hid (faultN px.pj = 0 → MoreOk 2 p.pj px.pj) := Lib.hid (fun h => ⟨fun _ hb => by rw [hpj] at h ⊢; exact less_due HFZ.out HA.out HMB.out h hb, fun h => absurd h (by decide)⟩)
              have HPV := Lib.hid hpv
              refine genQ (fun X => newer w X ∧ Whole X w.heap.size 27 (pmC p) ∧ Whole X xb 27 (pmC px) ∧ PmOk px X) ⟨(H41.out.1.setCell (p := ⟨g2, i * 3 + 2, none⟩) HG_g2.out (vi mn)), H41.out.2.1.far (p := ⟨g2, i * 3 + 2, none⟩) (fun h => own_ne H41.out.2.2.2.2.2.1 H41.out.2.1 (by decide) (by rw [h]; rfl)) (vi mn), (by rw [HPV.out]; exact H41.out.2.2.2.1.far (p := ⟨g2, i * 3 + 2, none⟩) (fun h => own_ne H41.out.2.2.2.2.2.1 H41.out.2.2.2.1 (by decide) (by rw [h]; rfl)) (vi mn)), HPK.out⟩ ?_
              rintro w42 ⟨g0_, g1_, g2_, g3_⟩
              have H43 := Lib.hid (And.intro (g0_) (And.intro (g1_) (And.intro (g2_) (g3_))))
              clear g0_ g1_ g2_ g3_ H41 hpx hpv HOW HPK hpj hfr d2a hkl
              clear HPV
              have z0 := H43.out.2.2.1.at 0 (v := vi px.years) rfl
              have z1 := H43.out.2.2.1.at 1 (v := vi px.slopes) rfl
              have z2 := H43.out.2.2.1.at 2 (v := .slice px.wa px.ws.length px.wc) rfl
              have z3 := H43.out.2.2.1.at 3 (v := .slice px.na px.ns.length px.nc) rfl
              have z4 := H43.out.2.2.1.at 4 (v := .slice px.va px.vs.length px.vc) rfl
              have z5 := H43.out.2.2.1.at 5 (v := .slice px.pa px.ps.length px.pc) rfl
              obtain ⟨fx, hfx⟩ : ∃ fx, fx = faultN px.pj := ⟨_, rfl⟩
              have HFX2 := Lib.hid hfx
              have hrf := refFault px w42 H43.out.2.2.2 HFX.out
              rw [← hfx] at hrf
              have HRX := Lib.hid hrf
              clear hrf hfx
              go_wp2_with fail
              refine (HRX.out).mono ?_
              rintro e w44 ⟨rfl, hb⟩
              have H45 := Lib.hid (And.intro ((newer_trans H43.out.1 hb)) (And.intro ((H43.out.2.1.below hb H43.out.2.1.lt)) (And.intro ((H43.out.2.2.1.below hb H43.out.2.2.1.lt)) ((H43.out.2.2.2.next hb)))))
              clear hb HRX H43 z0 z1 z2 z3 z4 z5
              by_cases hf0 : fx = 0
              case neg =>
                have b2 : (fx != 0) = true := by simpa using hf0
                clear hf0
                go_wp2_with (go_at_call 17; refine (wakes_any _).mono ?_; rintro e w' ⟨rfl, hwk⟩; have HWK := Lib.hid (newer_trans H45.out.1 hwk); clear hwk)
                go_ret
                exact ⟨rfl, HWK.out⟩
              subst hf0
              obtain ⟨F, hF⟩ : ∃ F, F = bestE px.pj := ⟨_, rfl⟩
              have HFF := Lib.hid hF
              obtain ⟨cx, hcx⟩ : ∃ cx, cx = costOf (bestR px.pj) := ⟨_, rfl⟩
              have HCX := Lib.hid hcx
              obtain ⟨LX, hLX⟩ : ∃ LX, LX = bestL px.pj := ⟨_, rfl⟩
              have HTX := Lib.hid (few_of (fault_ok HFX2.out.symm))
              have HBX := Lib.hid (fun (p1 : Pm) (V : World) (hj : p1.pj = px.pj) (hok : PmOk p1 V) (hpc : p1.ps.length ≤ p1.pc) => best_list hj hok (few_of (pjOk_of (faultOk_iff.1 (by rw [hj]; exact HFX2.out.symm)))) hpc)
              rw [← hF, ← hcx, ← hLX] at HBX
              clear hF hcx hLX
              have hmo := HMO.out HFX2.out.symm
              unfold MoreOk at hmo
              rw [← HEE.out, ← HCQ.out, ← HFF.out, ← HCX.out] at hmo
              have HMX := Lib.hid hmo
              have HE2 : Hid (E = 0 ∨ E = 9) := Lib.hid (by rw [HEE.out]; exact bestE_9 HFZ.out)
              have HF2 : Hid (F = 0 ∨ F = 9) := Lib.hid (by rw [HFF.out]; exact bestE_9 HFX2.out.symm)
              clear hmo HMO
              have x0 := H45.out.2.1.at 0 (v := vi p.years) rfl
              have x1 := H45.out.2.1.at 1 (v := vi p.slopes) rfl
              have x2 := H45.out.2.1.at 2 (v := .slice p.wa p.ws.length p.wc) rfl
              have x3 := H45.out.2.1.at 3 (v := .slice p.na p.ns.length p.nc) rfl
              have x4 := H45.out.2.1.at 4 (v := .slice p.va p.vs.length p.vc) rfl
              have x5 := H45.out.2.1.at 5 (v := .slice p.pa p.ps.length p.pc) rfl
              go_wp2_with fail
              refine (lawProject p w44 (HOK.out.next H45.out.1) HF.out).mono ?_
              rintro e w46 ⟨⟨p1, rfl, hj1, ho1, hpc1⟩, hb⟩
              have HJ1 := Lib.hid (And.intro hj1 hpc1)
              clear hj1 hpc1
              have H47 := Lib.hid (And.intro ((newer_trans H45.out.1 hb)) (And.intro ((H45.out.2.1.below hb H45.out.2.1.lt)) (And.intro ((H45.out.2.2.1.below hb H45.out.2.2.1.lt)) (And.intro ((H45.out.2.2.2.next hb)) (ho1)))))
              clear hb ho1 H45 x0 x1 x2 x3 x4 x5
              go_wp2_with fail
              refine (HBP.out p1 _ HJ1.out.1 H47.out.2.2.2.2 HJ1.out.2).mono ?_
              rintro e w48 ⟨⟨A4, c4, rfl, -⟩, hb⟩
              have H49 := Lib.hid (And.intro ((newer_trans H47.out.1 hb)) (And.intro ((H47.out.2.1.below hb H47.out.2.1.lt)) (And.intro ((H47.out.2.2.1.below hb H47.out.2.2.1.lt)) ((H47.out.2.2.2.1.next hb)))))
              clear hb HJ1 HBP H47
              have z0 := H49.out.2.2.1.at 0 (v := vi px.years) rfl
              have z1 := H49.out.2.2.1.at 1 (v := vi px.slopes) rfl
              have z2 := H49.out.2.2.1.at 2 (v := .slice px.wa px.ws.length px.wc) rfl
              have z3 := H49.out.2.2.1.at 3 (v := .slice px.na px.ns.length px.nc) rfl
              have z4 := H49.out.2.2.1.at 4 (v := .slice px.va px.vs.length px.vc) rfl
              have z5 := H49.out.2.2.1.at 5 (v := .slice px.pa px.ps.length px.pc) rfl
              go_wp2_with fail
              refine (lawProject px w48 H49.out.2.2.2 HTX.out).mono ?_
              rintro e w50 ⟨⟨p1, rfl, hj1, ho1, hpc1⟩, hb⟩
              have HJ1 := Lib.hid (And.intro hj1 hpc1)
              clear hj1 hpc1
              have H51 := Lib.hid (And.intro ((newer_trans H49.out.1 hb)) (And.intro ((H49.out.2.1.below hb H49.out.2.1.lt)) (And.intro ((H49.out.2.2.1.below hb H49.out.2.2.1.lt)) (And.intro ((H49.out.2.2.2.next hb)) (ho1)))))
              clear hb ho1 H49 z0 z1 z2 z3 z4 z5
              go_wp2_with fail
              refine (HBX.out p1 _ HJ1.out.1 H51.out.2.2.2.2 HJ1.out.2).mono ?_
              rintro e w52 ⟨⟨A5, c5, rfl, -⟩, hb⟩
              have H53 := Lib.hid (And.intro ((newer_trans H51.out.1 hb)) (And.intro ((H51.out.2.1.below hb H51.out.2.1.lt)) (And.intro ((H51.out.2.2.1.below hb H51.out.2.2.1.lt)) ((H51.out.2.2.2.1.next hb)))))
              clear hb HJ1 HBX H51
              have h10 := HB.out.1
              have h11 := HB.out.2.1
              have em := HM.out.1
              have em2 : a1 % 6 = 2 := by rw [← Int.tmod_eq_emod_of_nonneg h10]; exact em
              rcases HE2.out with he | he <;> rcases HF2.out with hf | hf
              · have hle := (HMX.out.1 (by decide) he).2
                subst he
                subst hf
                go_wp2_with (go_at_call 17; refine (wakes_any _).mono ?_; rintro e w' ⟨rfl, hwk⟩; have HWK := Lib.hid (newer_trans H53.out.1 hwk); clear hwk)
                go_ret
                exact ⟨rfl, HWK.out⟩
              · exact absurd (hf.symm.trans (HMX.out.1 (by decide) he).1) (by decide)
              · subst he
                subst hf
                go_wp2_with (go_at_call 17; refine (wakes_any _).mono ?_; rintro e w' ⟨rfl, hwk⟩; have HWK := Lib.hid (newer_trans H53.out.1 hwk); clear hwk)
                go_ret
                exact ⟨rfl, HWK.out⟩
              · subst he
                subst hf
                go_wp2_with (go_at_call 17; refine (wakes_any _).mono ?_; rintro e w' ⟨rfl, hwk⟩; have HWK := Lib.hid (newer_trans H53.out.1 hwk); clear hwk)
                go_ret
                exact ⟨rfl, HWK.out⟩
          · go_upto_region 17 with fail
            clear c54 ek hne em em2
            obtain ⟨b2, o2, e2, _, d0, d1, d2, d3, d4, d5⟩ := row6 (row_of_own (enc := wkL) (size := 6) (by omega) (fun _ => rfl) H14.out.2.2.2.2.1) HX.out
            simp only [Option.some.injEq, Addr.mk.injEq, and_true] at e2
            obtain ⟨rfl, rfl⟩ := e2
            simp only [Nat.zero_add] at d5
            clear d0 d1 d2 d3 d4
            have hkl := HK.out.2
            have HSL := HWB.out.2.2.2.2.1
            have hsl := HPO.out.slopes
            have HAL : Hid (0 < x.d.adds.length) := Lib.hid (by omega)
            have HAF := Lib.hid (HF.out.ad x (List.mem_of_getElem? HX.out))
            clear HSL hsl h10 h11 h20 h21 h30 h31
            refine wp_words (by kernel_rfl) (region_told 11 (by kernel_rfl) (by kernel_rfl) (fun W => Below w13.heap.size w13 W) newer (pickD [vIs (.pointer (some ⟨xb, 2, none⟩)), vIs (.slice (some ⟨g1, 0, none⟩) p.ws.length c1), vIs (.int .i64 k), vEmpT w13.heap.size 65, vIs (.pointer (some ⟨xb, 2, none⟩)), vIs (.slice (some ⟨g1, 0, none⟩) p.ws.length c1), vIs (.int .i64 k), vIs (.pointer (some ⟨g1, k * 6, none⟩)), vIs (.pointer (some ⟨g1, k * 6 + 5, none⟩)), vIs (.slice x.a x.d.adds.length x.cp), vOwn w13.heap.size 65 2 rgL x.d.adds]) (fun h k => newer_trans h k) (pickD_stable _ ⟨vIs_st, vIs_st, vIs_st, vEmpT_st, vIs_st, vIs_st, vIs_st, vIs_st, vIs_st, vIs_st, vOwn_st, trivial⟩) (Below.refl _ w13).drew (Below.refl _ _) ?_ ?_)
            · refine ⟨?_, ?_, ?_, ?_, ?_, ?_, ?_, ?_, ?_, ?_, ?_, trivial⟩
              · intro a W hG hR hO hp
                have h11 := hO.slot 11 (by kernel_rfl)
                refine wp_yields (v := .pointer (some ⟨xb, 2, none⟩)) ?_ ⟨_, rfl, rfl, Below.refl _ _, hG⟩
                simp [slotOf] at h11
                simp [execOp, go_sem, h11]
              · intro a W hG hR hO hp
                have h130 : slotOf a 130 = .pointer (some ⟨xb, 2, none⟩) := hp.1
                have c0 := keep_cell z2 hG
                refine wp_yields (v := .slice (some ⟨g1, 0, none⟩) p.ws.length c1) ?_ ⟨_, rfl, rfl, Below.refl _ _, hG⟩
                simp [slotOf] at h130
                simp [execOp, go_sem, h130, c0]
              · intro a W hG hR hO hp
                have h12 := hO.slot 12 (by kernel_rfl)
                refine wp_yields (v := .int .i64 k) ?_ ⟨_, rfl, rfl, Below.refl _ _, hG⟩
                simp [slotOf] at h12
                simp [execOp, go_sem, h12]
              · intro a W hG hR hO hp
                refine wp_makes (v := .slice (some ⟨W.heap.size, 0, none⟩) 0 0) (W' := W.alloc (.cells #[] 65)) ?_ ⟨_, rfl, ⟨_, rfl, hG.size, Whole.made _ _ _⟩, newer_allocH _ _, hG.alloc hG.size _⟩
                skip
                simp [execOp, go_sem]
              · intro a W hG hR hO hp
                have h11 := hO.slot 11 (by kernel_rfl)
                refine wp_yields (v := .pointer (some ⟨xb, 2, none⟩)) ?_ ⟨_, rfl, rfl, Below.refl _ _, hG⟩
                simp [slotOf] at h11
                simp [execOp, go_sem, h11]
              · intro a W hG hR hO hp
                have h134 : slotOf a 134 = .pointer (some ⟨xb, 2, none⟩) := hp.1
                have c0 := keep_cell z2 hG
                refine wp_yields (v := .slice (some ⟨g1, 0, none⟩) p.ws.length c1) ?_ ⟨_, rfl, rfl, Below.refl _ _, hG⟩
                simp [slotOf] at h134
                simp [execOp, go_sem, h134, c0]
              · intro a W hG hR hO hp
                have h12 := hO.slot 12 (by kernel_rfl)
                refine wp_yields (v := .int .i64 k) ?_ ⟨_, rfl, rfl, Below.refl _ _, hG⟩
                simp [slotOf] at h12
                simp [execOp, go_sem, h12]
              · intro a W hG hR hO hp
                have h135 : slotOf a 135 = .slice (some ⟨g1, 0, none⟩) p.ws.length c1 := hp.1
                have h136 : slotOf a 136 = .int .i64 k := hp.2.1
                refine wp_yields (v := .pointer (some ⟨g1, k * 6, none⟩)) ?_ ⟨_, rfl, rfl, Below.refl _ _, hG⟩
                simp [slotOf] at h135 h136
                simp [execOp, go_sem, h135, h136, hkl]
              · intro a W hG hR hO hp
                have h137 : slotOf a 137 = .pointer (some ⟨g1, k * 6, none⟩) := hp.1
                refine wp_yields (v := .pointer (some ⟨g1, k * 6 + 5, none⟩)) ?_ ⟨_, rfl, rfl, Below.refl _ _, hG⟩
                simp [slotOf] at h137
                simp [execOp, go_sem, h137]
              · intro a W hG hR hO hp
                have h138 : slotOf a 138 = .pointer (some ⟨g1, k * 6 + 5, none⟩) := hp.1
                have c0 := keep_cell d5 hG
                refine wp_yields (v := .slice x.a x.d.adds.length x.cp) ?_ ⟨_, rfl, rfl, Below.refl _ _, hG⟩
                simp [slotOf] at h138
                simp [execOp, go_sem, h138, c0]
              · intro a W hG hR hO hp
                have h133 := hp.1
                have h139 : slotOf a 139 = .slice x.a x.d.adds.length x.cp := hp.2.1
                obtain ⟨nb, h133, hnb, hW⟩ := h133
                obtain ⟨hi0, hz0, hz1, hz2⟩ := HI65.out
                refine wp_append_owncopy (enc := rgL) (size := 2) w13.heap.size (.tmp 133) (.tmp 139) 61 65 i65 (.agg #[vi 0, vi 0]) 16 Try.underlying61 hi0 hz0 hz1 hz2 rfl (by omega) (by omega) (fun _ => rfl) rfl nb ((eval_slot a 133).trans h133) hnb hW x.d.adds x.a x.cp ((eval_slot a 139).trans h139) HAF.out ((HOK.out.next (newer_trans H14.out.1 hG)).ad x (List.mem_of_getElem? HX.out)) hG.size ?_
                intro B c w' hown hb hlt
                exact ⟨_, rfl, ⟨B, c, rfl, hown⟩, hb, below_next hG hb⟩
            · intro wz hG hR
              rintro _ rfl _ rfl _ rfl _ hv65 _ rfl _ rfl _ rfl _ rfl _ rfl _ rfl _ ⟨GA, ca, rfl, hao⟩
              change wpList _ _ _ _ _ _
              simp only [Act.put, List.setIfInBounds_toArray, List.set_cons_zero, List.set_cons_succ, List.drop_succ_cons, List.drop_zero]
              have HAO := Lib.hid (own_more hao H14.out.1.size)
              have d5a := keep_cell d5 hG
              clear hR hv65 hao d5
              have H54 := Lib.hid (And.intro ((newer_trans H14.out.1 hG)) (And.intro ((H14.out.2.1.below hG H14.out.2.1.lt)) (And.intro ((H14.out.2.2.1.below hG H14.out.2.2.1.lt)) (And.intro ((H14.out.2.2.2.1.below hG H14.out.2.2.2.1.lt)) (And.intro ((own_below H14.out.2.2.2.2.1 hG)) (And.intro ((own_below H14.out.2.2.2.2.2.1 hG)) (And.intro ((own_below H14.out.2.2.2.2.2.2 hG)) (HAO.out))))))))
              clear hG HAO H14 z0 z1 z2 z3 z4 z5 x0 x1 x2 x3 x4 x5 hw0 hn0 hp0 hwn hnn
              obtain ⟨ga, rfl, hga⟩ := own_some H54.out.2.2.2.2.2.2.2 HAL.out
              have HG_ga := Lib.hid hga
              clear hga
              have z2 := H54.out.2.2.2.1.at 2 (v := .slice (some ⟨g1, 0, none⟩) p.ws.length c1) rfl
              have hfr := H54.out.2.2.2.2.1.frozenAt (k * 6 + 5)
              go_upto_region 18 with fail
              have HOW := Lib.hid ((H54.out.2.2.2.2.1.stored (k * 6 + 5) (.slice (some ⟨ga, 0, none⟩) x.d.adds.length ca)).1)
              have HO2 := Lib.hid (show _ from by
                  have ho := HOW.out
                  rw [flat_put (enc := wkL) (s := 6) (fun _ => rfl) (x' := (⟨x.d, some ⟨ga, 0, none⟩, ca⟩ : Wk)) (by omega) p.ws k x HX.out rfl] at ho
                  exact ho)
              refine genQ (fun X => newer w X ∧ Whole X w.heap.size 27 (pmC p) ∧ Whole X xb 27 #[vi p.years, vi p.slopes, .slice (some ⟨g1, 0, none⟩) p.ws.length c1, .slice (some ⟨g2, 0, none⟩) p.ns.length c2, .slice p.va p.vs.length p.vc, .slice (some ⟨g3, 0, none⟩) p.ps.length qc] ∧ X.ownsRow w.heap.size 63 6 (.slice (some ⟨g1, 0, none⟩) p.ws.length c1) p.ws.length ((p.ws.set k (⟨x.d, some ⟨ga, 0, none⟩, ca⟩ : Wk)).flatMap wkL) ∧ X.ownsRow w.heap.size 60 3 (.slice (some ⟨g2, 0, none⟩) p.ns.length c2) p.ns.length (p.ns.flatMap ndL) ∧ X.ownsRow w.heap.size 3 1 (.slice (some ⟨g3, 0, none⟩) p.ps.length qc) p.ps.length (p.ps.flatMap intL) ∧ X.ownsRow w.heap.size 65 2 (.slice (some ⟨ga, 0, none⟩) x.d.adds.length ca) x.d.adds.length (x.d.adds.flatMap rgL)) ⟨(H54.out.1.setCell (p := ⟨g1, k * 6 + 5, none⟩) HG_g1.out (.slice (some ⟨ga, 0, none⟩) x.d.adds.length ca)), H54.out.2.1.far (p := ⟨g1, k * 6 + 5, none⟩) (fun h => own_ne H54.out.2.2.2.2.1 H54.out.2.1 (by decide) (by rw [h]; rfl)) (.slice (some ⟨ga, 0, none⟩) x.d.adds.length ca), H54.out.2.2.2.1.far (p := ⟨g1, k * 6 + 5, none⟩) (fun h => own_ne H54.out.2.2.2.2.1 H54.out.2.2.2.1 (by decide) (by rw [h]; rfl)) (.slice (some ⟨ga, 0, none⟩) x.d.adds.length ca), HO2.out, (own_set (i := k * 6 + 5) H54.out.2.2.2.2.2.1 (fun e => (own_apart H54.out.2.2.2.2.2.1 H54.out.2.2.2.2.1 (by decide)).elim (fun h => by rw [h] at e; cases e) (fun h => h (e.trans rfl))) (.slice (some ⟨ga, 0, none⟩) x.d.adds.length ca)), (own_set (i := k * 6 + 5) H54.out.2.2.2.2.2.2.1 (fun e => (own_apart H54.out.2.2.2.2.2.2.1 H54.out.2.2.2.2.1 (by decide)).elim (fun h => by rw [h] at e; cases e) (fun h => h (e.trans rfl))) (.slice (some ⟨ga, 0, none⟩) x.d.adds.length ca)), (own_set (i := k * 6 + 5) H54.out.2.2.2.2.2.2.2 (fun e => (own_apart H54.out.2.2.2.2.2.2.2 H54.out.2.2.2.2.1 (by decide)).elim (fun h => by rw [h] at e; cases e) (fun h => h (e.trans rfl))) (.slice (some ⟨ga, 0, none⟩) x.d.adds.length ca))⟩ ?_
              rintro w55 ⟨g0_, g1_, g2_, g3_, g4_, g5_, g6_⟩
              have H56 := Lib.hid (And.intro (g0_) (And.intro (g1_) (And.intro (g2_) (And.intro (g3_) (And.intro (g4_) (And.intro (g5_) (g6_)))))))
              clear g0_ g1_ g2_ g3_ g4_ g5_ g6_ H54 z2 d5a hfr HOW HO2
              have z2 := H56.out.2.2.1.at 2 (v := .slice (some ⟨g1, 0, none⟩) p.ws.length c1) rfl
              obtain ⟨b2, o2, e2, _, d0, d1, d2, d3, d4, d5⟩ := row6 (row_of_own (enc := wkL) (size := 6) (by omega) (fun _ => rfl) H56.out.2.2.2.1) (show (p.ws.set k (⟨x.d, some ⟨ga, 0, none⟩, ca⟩ : Wk))[k]? = some (⟨x.d, some ⟨ga, 0, none⟩, ca⟩ : Wk) by rw [List.getElem?_set, if_pos rfl, if_pos (by have := HK.out.2; omega)])
              simp only [Option.some.injEq, Addr.mk.injEq, and_true] at e2
              obtain ⟨rfl, rfl⟩ := e2
              simp only [Nat.zero_add] at d5
              clear d0 d1 d2 d3 d4
              obtain ⟨j, ej, hjn⟩ := rem_nat (a := a3) (n := x.d.adds.length) HB.out.2.2.2.2.1 (by have := HAL.out; omega)
              have HJ := Lib.hid hjn
              have h30 := HB.out.2.2.2.2.1
              have h31 := HB.out.2.2.2.2.2
              have c62 : IntKind.i64.wrap a3 = a3 := IntWalk.i64_in _ (by omega)
              have hal := HAL.out
              have hae : ¬ (x.d.adds = []) := by intro h; rw [h] at hal; exact absurd hal (by decide)
              have haz : ¬ (x.d.adds.length = 0) := by omega
              clear h30 h31
              refine wp_words (by kernel_rfl) (region_told 17 (by kernel_rfl) (by kernel_rfl) (fun W => Below w55.heap.size w55 W) newer (pickD [vIs (.pointer (some ⟨xb, 2, none⟩)), vIs (.slice (some ⟨g1, 0, none⟩) p.ws.length c1), vIs (.int .i64 k), vIs (.pointer (some ⟨g1, k * 6, none⟩)), vIs (.pointer (some ⟨g1, k * 6 + 5, none⟩)), vIs (.slice (some ⟨ga, 0, none⟩) x.d.adds.length ca), vIs (.int .u16 a3), vIs (vi a3), vIs (.pointer (some ⟨xb, 2, none⟩)), vIs (.slice (some ⟨g1, 0, none⟩) p.ws.length c1), vIs (.int .i64 k), vIs (.pointer (some ⟨g1, k * 6, none⟩)), vIs (.pointer (some ⟨g1, k * 6 + 5, none⟩)), vIs (.slice (some ⟨ga, 0, none⟩) x.d.adds.length ca), vIs (.int .i64 x.d.adds.length), vIs (.int .i64 j), vIs (.pointer (some ⟨ga, j * 2, none⟩))]) (fun h k => newer_trans h k) (pickD_stable _ ⟨vIs_st, vIs_st, vIs_st, vIs_st, vIs_st, vIs_st, vIs_st, vIs_st, vIs_st, vIs_st, vIs_st, vIs_st, vIs_st, vIs_st, vIs_st, vIs_st, vIs_st, trivial⟩) (Below.refl _ w55).drew (Below.refl _ _) ?_ ?_)
              · refine ⟨?_, ?_, ?_, ?_, ?_, ?_, ?_, ?_, ?_, ?_, ?_, ?_, ?_, ?_, ?_, ?_, ?_, trivial⟩
                · intro a W hG hR hO hp
                  have h11 := hO.slot 11 (by kernel_rfl)
                  refine wp_yields (v := .pointer (some ⟨xb, 2, none⟩)) ?_ ⟨_, rfl, rfl, Below.refl _ _, hG⟩
                  simp [slotOf] at h11
                  simp [execOp, go_sem, h11]
                · intro a W hG hR hO hp
                  have h143 : slotOf a 143 = .pointer (some ⟨xb, 2, none⟩) := hp.1
                  have c0 := keep_cell z2 hG
                  refine wp_yields (v := .slice (some ⟨g1, 0, none⟩) p.ws.length c1) ?_ ⟨_, rfl, rfl, Below.refl _ _, hG⟩
                  simp [slotOf] at h143
                  simp [execOp, go_sem, h143, c0]
                · intro a W hG hR hO hp
                  have h12 := hO.slot 12 (by kernel_rfl)
                  refine wp_yields (v := .int .i64 k) ?_ ⟨_, rfl, rfl, Below.refl _ _, hG⟩
                  simp [slotOf] at h12
                  simp [execOp, go_sem, h12]
                · intro a W hG hR hO hp
                  have h144 : slotOf a 144 = .slice (some ⟨g1, 0, none⟩) p.ws.length c1 := hp.1
                  have h145 : slotOf a 145 = .int .i64 k := hp.2.1
                  refine wp_yields (v := .pointer (some ⟨g1, k * 6, none⟩)) ?_ ⟨_, rfl, rfl, Below.refl _ _, hG⟩
                  simp [slotOf] at h144 h145
                  simp [execOp, go_sem, h144, h145, hkl]
                · intro a W hG hR hO hp
                  have h146 : slotOf a 146 = .pointer (some ⟨g1, k * 6, none⟩) := hp.1
                  refine wp_yields (v := .pointer (some ⟨g1, k * 6 + 5, none⟩)) ?_ ⟨_, rfl, rfl, Below.refl _ _, hG⟩
                  simp [slotOf] at h146
                  simp [execOp, go_sem, h146]
                · intro a W hG hR hO hp
                  have h147 : slotOf a 147 = .pointer (some ⟨g1, k * 6 + 5, none⟩) := hp.1
                  have c0 := keep_cell d5 hG
                  refine wp_yields (v := .slice (some ⟨ga, 0, none⟩) x.d.adds.length ca) ?_ ⟨_, rfl, rfl, Below.refl _ _, hG⟩
                  simp [slotOf] at h147
                  simp [execOp, go_sem, h147, c0]
                · intro a W hG hR hO hp
                  have h3 := hO.slot 3 (by kernel_rfl)
                  refine wp_yields (v := .int .u16 a3) ?_ ⟨_, rfl, rfl, Below.refl _ _, hG⟩
                  simp [slotOf] at h3
                  simp [execOp, go_sem, h3]
                · intro a W hG hR hO hp
                  have h149 : slotOf a 149 = .int .u16 a3 := hp.1
                  refine wp_yields (v := vi a3) ?_ ⟨_, rfl, rfl, Below.refl _ _, hG⟩
                  simp [slotOf] at h149
                  simp [execOp, go_sem, h149, c62]
                · intro a W hG hR hO hp
                  have h11 := hO.slot 11 (by kernel_rfl)
                  refine wp_yields (v := .pointer (some ⟨xb, 2, none⟩)) ?_ ⟨_, rfl, rfl, Below.refl _ _, hG⟩
                  simp [slotOf] at h11
                  simp [execOp, go_sem, h11]
                · intro a W hG hR hO hp
                  have h151 : slotOf a 151 = .pointer (some ⟨xb, 2, none⟩) := hp.1
                  have c0 := keep_cell z2 hG
                  refine wp_yields (v := .slice (some ⟨g1, 0, none⟩) p.ws.length c1) ?_ ⟨_, rfl, rfl, Below.refl _ _, hG⟩
                  simp [slotOf] at h151
                  simp [execOp, go_sem, h151, c0]
                · intro a W hG hR hO hp
                  have h12 := hO.slot 12 (by kernel_rfl)
                  refine wp_yields (v := .int .i64 k) ?_ ⟨_, rfl, rfl, Below.refl _ _, hG⟩
                  simp [slotOf] at h12
                  simp [execOp, go_sem, h12]
                · intro a W hG hR hO hp
                  have h152 : slotOf a 152 = .slice (some ⟨g1, 0, none⟩) p.ws.length c1 := hp.1
                  have h153 : slotOf a 153 = .int .i64 k := hp.2.1
                  refine wp_yields (v := .pointer (some ⟨g1, k * 6, none⟩)) ?_ ⟨_, rfl, rfl, Below.refl _ _, hG⟩
                  simp [slotOf] at h152 h153
                  simp [execOp, go_sem, h152, h153, hkl]
                · intro a W hG hR hO hp
                  have h154 : slotOf a 154 = .pointer (some ⟨g1, k * 6, none⟩) := hp.1
                  refine wp_yields (v := .pointer (some ⟨g1, k * 6 + 5, none⟩)) ?_ ⟨_, rfl, rfl, Below.refl _ _, hG⟩
                  simp [slotOf] at h154
                  simp [execOp, go_sem, h154]
                · intro a W hG hR hO hp
                  have h155 : slotOf a 155 = .pointer (some ⟨g1, k * 6 + 5, none⟩) := hp.1
                  have c0 := keep_cell d5 hG
                  refine wp_yields (v := .slice (some ⟨ga, 0, none⟩) x.d.adds.length ca) ?_ ⟨_, rfl, rfl, Below.refl _ _, hG⟩
                  simp [slotOf] at h155
                  simp [execOp, go_sem, h155, c0]
                · intro a W hG hR hO hp
                  have h156 : slotOf a 156 = .slice (some ⟨ga, 0, none⟩) x.d.adds.length ca := hp.1
                  refine wp_yields (v := .int .i64 x.d.adds.length) ?_ ⟨_, rfl, rfl, Below.refl _ _, hG⟩
                  simp [slotOf] at h156
                  simp [go_sem, h156]
                · intro a W hG hR hO hp
                  have h150 : slotOf a 150 = vi a3 := hp.1
                  have h157 : slotOf a 157 = .int .i64 x.d.adds.length := hp.2.1
                  refine wp_yields (v := .int .i64 j) ?_ ⟨_, rfl, rfl, Below.refl _ _, hG⟩
                  simp [slotOf] at h150 h157
                  simp [execOp, go_sem, h150, h157, ej, haz]
                · intro a W hG hR hO hp
                  have h148 : slotOf a 148 = .slice (some ⟨ga, 0, none⟩) x.d.adds.length ca := hp.1
                  have h158 : slotOf a 158 = .int .i64 j := hp.2.1
                  refine wp_yields (v := .pointer (some ⟨ga, j * 2, none⟩)) ?_ ⟨_, rfl, rfl, Below.refl _ _, hG⟩
                  simp [slotOf] at h148 h158
                  simp [execOp, go_sem, h148, h158, hjn]
              · intro wy hG hR
                rintro _ rfl _ rfl _ rfl _ rfl _ rfl _ rfl _ rfl _ rfl _ rfl _ rfl _ rfl _ rfl _ rfl _ rfl _ rfl _ rfl _ rfl
                change wpList _ _ _ _ _ _
                simp only [Act.put, List.setIfInBounds_toArray, List.set_cons_zero, List.set_cons_succ, List.drop_succ_cons, List.drop_zero]
                clear hR c62 d5 hal hae haz ej z2
                have H57 := Lib.hid (And.intro ((newer_trans H56.out.1 hG)) (And.intro ((H56.out.2.1.below hG H56.out.2.1.lt)) (And.intro ((H56.out.2.2.1.below hG H56.out.2.2.1.lt)) (And.intro ((own_below H56.out.2.2.2.1 hG)) (And.intro ((own_below H56.out.2.2.2.2.1 hG)) (And.intro ((own_below H56.out.2.2.2.2.2.1 hG)) ((own_below H56.out.2.2.2.2.2.2 hG))))))))
                clear hG H56
                go_upto_region 19 with fail
                obtain ⟨r, hr⟩ := get_of_lt (l := x.d.adds) (k := j) (by omega)
                have HR_ := Lib.hid hr
                have hrb := HWB.out.2.2.2.2.2 r (List.mem_of_getElem? hr)
                obtain ⟨b2, o2, e2, _, c0, c1_⟩ := row2 (row_of_own (enc := rgL) (size := 2) (by omega) (fun _ => rfl) H57.out.2.2.2.2.2.2) hr
                simp only [Option.some.injEq, Addr.mk.injEq, and_true] at e2
                obtain ⟨rfl, rfl⟩ := e2
                simp only [Nat.zero_add] at c0 c1_
                have h30 := HB.out.2.2.2.2.1
                have h31 := HB.out.2.2.2.2.2
                obtain ⟨ag, hga⟩ : ∃ ag, ag = r.lo + a3 := ⟨_, rfl⟩
                obtain ⟨mn, hmn⟩ : ∃ mn, mn = mnI r.hi ag := ⟨_, rfl⟩
                have HMB : Hid (r.lo ≤ mn) := Lib.hid (by rw [hmn]; unfold mnI; split <;> omega)
                have HMN := Lib.hid hmn
                have c62 : IntKind.i64.wrap a3 = a3 := IntWalk.i64_in _ (by omega)
                have c63 : IntKind.i64.wrap (r.lo + a3) = ag := by rw [← hga]; exact IntWalk.i64_in _ (by omega)
                clear hga hmn hrb hr h30 h31
                refine wp_words (by kernel_rfl) (region_told 13 (by kernel_rfl) (by kernel_rfl) (fun W => Below wy.heap.size wy W) newer (pickD [vIs (.pointer (some ⟨ga, j * 2, none⟩)), vIs (.pointer (some ⟨ga, j * 2, none⟩)), vIs (.pointer (some ⟨ga, j * 2, none⟩)), vIs (.pointer (some ⟨ga, j * 2 + 1, none⟩)), vIs (vi r.hi), vIs (.pointer (some ⟨ga, j * 2, none⟩)), vIs (.pointer (some ⟨ga, j * 2, none⟩)), vIs (.pointer (some ⟨ga, j * 2, none⟩)), vIs (vi r.lo), vIs (.int .u16 a3), vIs (vi a3), vIs (vi ag), vIs (vi mn)]) (fun h k => newer_trans h k) (pickD_stable _ ⟨vIs_st, vIs_st, vIs_st, vIs_st, vIs_st, vIs_st, vIs_st, vIs_st, vIs_st, vIs_st, vIs_st, vIs_st, vIs_st, trivial⟩) (Below.refl _ wy).drew (Below.refl _ _) ?_ ?_)
                · refine ⟨?_, ?_, ?_, ?_, ?_, ?_, ?_, ?_, ?_, ?_, ?_, ?_, ?_, trivial⟩
                  · intro a W hG hR hO hp
                    have h15 := hO.slot 15 (by kernel_rfl)
                    refine wp_yields (v := .pointer (some ⟨ga, j * 2, none⟩)) ?_ ⟨_, rfl, rfl, Below.refl _ _, hG⟩
                    simp [slotOf] at h15
                    simp [execOp, go_sem, h15]
                  · intro a W hG hR hO hp
                    have h15 := hO.slot 15 (by kernel_rfl)
                    refine wp_yields (v := .pointer (some ⟨ga, j * 2, none⟩)) ?_ ⟨_, rfl, rfl, Below.refl _ _, hG⟩
                    simp [slotOf] at h15
                    simp [execOp, go_sem, h15]
                  · intro a W hG hR hO hp
                    have h161 : slotOf a 161 = .pointer (some ⟨ga, j * 2, none⟩) := hp.1
                    refine wp_yields (v := .pointer (some ⟨ga, j * 2, none⟩)) ?_ ⟨_, rfl, rfl, Below.refl _ _, hG⟩
                    simp [slotOf] at h161
                    simp [execOp, go_sem, h161]
                  · intro a W hG hR hO hp
                    have h162 : slotOf a 162 = .pointer (some ⟨ga, j * 2, none⟩) := hp.1
                    refine wp_yields (v := .pointer (some ⟨ga, j * 2 + 1, none⟩)) ?_ ⟨_, rfl, rfl, Below.refl _ _, hG⟩
                    simp [slotOf] at h162
                    simp [execOp, go_sem, h162]
                  · intro a W hG hR hO hp
                    have h163 : slotOf a 163 = .pointer (some ⟨ga, j * 2 + 1, none⟩) := hp.1
                    have c0 := keep_cell c1_ hG
                    refine wp_yields (v := vi r.hi) ?_ ⟨_, rfl, rfl, Below.refl _ _, hG⟩
                    simp [slotOf] at h163
                    simp [execOp, go_sem, h163, c0]
                  · intro a W hG hR hO hp
                    have h15 := hO.slot 15 (by kernel_rfl)
                    refine wp_yields (v := .pointer (some ⟨ga, j * 2, none⟩)) ?_ ⟨_, rfl, rfl, Below.refl _ _, hG⟩
                    simp [slotOf] at h15
                    simp [execOp, go_sem, h15]
                  · intro a W hG hR hO hp
                    have h165 : slotOf a 165 = .pointer (some ⟨ga, j * 2, none⟩) := hp.1
                    refine wp_yields (v := .pointer (some ⟨ga, j * 2, none⟩)) ?_ ⟨_, rfl, rfl, Below.refl _ _, hG⟩
                    simp [slotOf] at h165
                    simp [execOp, go_sem, h165]
                  · intro a W hG hR hO hp
                    have h166 : slotOf a 166 = .pointer (some ⟨ga, j * 2, none⟩) := hp.1
                    refine wp_yields (v := .pointer (some ⟨ga, j * 2, none⟩)) ?_ ⟨_, rfl, rfl, Below.refl _ _, hG⟩
                    simp [slotOf] at h166
                    simp [execOp, go_sem, h166]
                  · intro a W hG hR hO hp
                    have h167 : slotOf a 167 = .pointer (some ⟨ga, j * 2, none⟩) := hp.1
                    have c0 := keep_cell c0 hG
                    refine wp_yields (v := vi r.lo) ?_ ⟨_, rfl, rfl, Below.refl _ _, hG⟩
                    simp [slotOf] at h167
                    simp [execOp, go_sem, h167, c0]
                  · intro a W hG hR hO hp
                    have h3 := hO.slot 3 (by kernel_rfl)
                    refine wp_yields (v := .int .u16 a3) ?_ ⟨_, rfl, rfl, Below.refl _ _, hG⟩
                    simp [slotOf] at h3
                    simp [execOp, go_sem, h3]
                  · intro a W hG hR hO hp
                    have h169 : slotOf a 169 = .int .u16 a3 := hp.1
                    refine wp_yields (v := vi a3) ?_ ⟨_, rfl, rfl, Below.refl _ _, hG⟩
                    simp [slotOf] at h169
                    simp [execOp, go_sem, h169, c62]
                  · intro a W hG hR hO hp
                    have h168 : slotOf a 168 = vi r.lo := hp.1
                    have h170 : slotOf a 170 = vi a3 := hp.2.1
                    refine wp_yields (v := vi ag) ?_ ⟨_, rfl, rfl, Below.refl _ _, hG⟩
                    simp [slotOf] at h168 h170
                    simp [execOp, go_sem, h168, h170, c63]
                  · intro a W hG hR hO hp
                    have h164 : slotOf a 164 = vi r.hi := hp.1
                    have h171 : slotOf a 171 = vi ag := hp.2.1
                    refine wp_yields (v := vi mn) ?_ ⟨_, rfl, rfl, Below.refl _ _, hG⟩
                    simp [slotOf] at h164 h171
                    simp [go_sem, h164, h171, HMN.out, mnI]
                · intro wx hG hR
                  rintro _ rfl _ rfl _ rfl _ rfl _ rfl _ rfl _ rfl _ rfl _ rfl _ rfl _ rfl _ rfl _ rfl
                  change wpList _ _ _ _ _ _
                  simp only [Act.put, List.setIfInBounds_toArray, List.set_cons_zero, List.set_cons_succ, List.drop_succ_cons, List.drop_zero]
                  have c0a := keep_cell c0 hG
                  clear hR c62 c63 c0 c1_
                  have H58 := Lib.hid (And.intro ((newer_trans H57.out.1 hG)) (And.intro ((H57.out.2.1.below hG H57.out.2.1.lt)) (And.intro ((H57.out.2.2.1.below hG H57.out.2.2.1.lt)) (And.intro ((own_below H57.out.2.2.2.1 hG)) (And.intro ((own_below H57.out.2.2.2.2.1 hG)) (And.intro ((own_below H57.out.2.2.2.2.2.1 hG)) ((own_below H57.out.2.2.2.2.2.2 hG))))))))
                  clear hG H57
                  have hfr := H58.out.2.2.2.2.2.2.frozenAt (j * 2)
                  have HFL : Hid ((p.ws.set k (⟨x.d, some ⟨ga, 0, none⟩, ca⟩ : Wk)).flatMap wkL = (p.ws.set k (⟨{ x.d with adds := x.d.adds.set j ⟨mn, r.hi⟩ }, some ⟨ga, 0, none⟩, ca⟩ : Wk)).flatMap wkL) := Lib.hid (flat_set_congr (by simp [wkL]))
                  go_upto_region 22 with fail
                  obtain ⟨px, hpx⟩ : ∃ px : Pm, px = { p with ws := p.ws.set k (⟨{ x.d with adds := x.d.adds.set j ⟨mn, r.hi⟩ }, some ⟨ga, 0, none⟩, ca⟩ : Wk), wa := some ⟨g1, 0, none⟩, wc := c1, na := some ⟨g2, 0, none⟩, nc := c2, pa := some ⟨g3, 0, none⟩, pc := qc } := ⟨_, rfl⟩
                  have hpv : pmC px = #[vi p.years, vi p.slopes, .slice (some ⟨g1, 0, none⟩) p.ws.length c1, .slice (some ⟨g2, 0, none⟩) p.ns.length c2, .slice p.va p.vs.length p.vc, .slice (some ⟨g3, 0, none⟩) p.ps.length qc] := by rw [hpx]; simp
                  have hpj : px.pj = { p.pj with works := p.pj.works.set k { x.d with adds := x.d.adds.set j ⟨mn, r.hi⟩ } } := by
                    rw [hpx]
                    simp only [Pm.pj, List.map_set]
                  have HOW := Lib.hid ((H58.out.2.2.2.2.2.2.stored (j * 2) (vi mn)).1)
                  have HPK := Lib.hid (show PmOk px (wx.setCell ⟨ga, j * 2, none⟩ (vi mn)) by
                      have ho := HOW.out
                      have e := flat_put (enc := rgL) (s := 2) (fun _ => rfl) (x' := (⟨mn, r.hi⟩ : Rg)) (u := vi mn) (j := 0) (by omega) x.d.adds j r HR_.out rfl
                      rw [Nat.add_zero] at e
                      rw [e] at ho
                      have h := HOK.out.next (H58.out.1.setCell (p := ⟨ga, j * 2, none⟩) HG_ga.out (vi mn))
                      rw [hpx]
                      refine ⟨?_, ?_, ?_, h.vs, ?_⟩
                      · have hw := (own_set (i := j * 2) H58.out.2.2.2.1 (fun e => (own_apart H58.out.2.2.2.1 H58.out.2.2.2.2.2.2 (by decide)).elim (fun h => by rw [h] at e; cases e) (fun h => h (e.trans rfl))) (vi mn))
                        rw [HFL.out] at hw
                        exact row_of_own (enc := wkL) (size := 6) (by omega) (fun _ => rfl) hw
                      · intro z hz
                        rcases List.mem_or_eq_of_mem_set hz with hz | rfl
                        · exact h.ad z hz
                        · exact row_of_own (enc := rgL) (size := 2) (by omega) (fun _ => rfl) (by simpa using ho)
                      · exact row_of_own (enc := ndL) (size := 3) (by omega) (fun _ => rfl) (own_set (i := j * 2) H58.out.2.2.2.2.1 (fun e => (own_apart H58.out.2.2.2.2.1 H58.out.2.2.2.2.2.2 (by decide)).elim (fun h => by rw [h] at e; cases e) (fun h => h (e.trans rfl))) (vi mn))
                      · exact row_of_own (enc := intL) (size := 1) (by omega) (fun _ => rfl) (own_set (i := j * 2) H58.out.2.2.2.2.2.1 (fun e => (own_apart H58.out.2.2.2.2.2.1 H58.out.2.2.2.2.2.2 (by decide)).elim (fun h => by rw [h] at e; cases e) (fun h => h (e.trans rfl))) (vi mn)))
                  have HFX : Hid (PmFew px) := Lib.hid (more_few HF.out (by rw [hpx]; simpa using HF.out.ws) (by rw [hpx]; (intro z hz; rcases List.mem_or_eq_of_mem_set hz with hz | rfl; exact HF.out.ad z hz; (have h := HF.out.ad x (List.mem_of_getElem? HX.out); simpa using h))) (by rw [hpx]; exact HF.out.ns) (by rw [hpx]) (by rw [hpx]; exact HF.out.ps))
                  have HMO : Hid (faultN px.pj = 0 → MoreOk 3 p.pj px.pj) := Lib.hid (fun h => ⟨fun _ hb => by rw [hpj] at h ⊢; exact better_work HFZ.out HQ.out HR_.out HMB.out h hb, fun h => absurd h (by decide)⟩)
                  have HPV := Lib.hid hpv
                  refine genQ (fun X => newer w X ∧ Whole X w.heap.size 27 (pmC p) ∧ Whole X xb 27 (pmC px) ∧ PmOk px X) ⟨(H58.out.1.setCell (p := ⟨ga, j * 2, none⟩) HG_ga.out (vi mn)), H58.out.2.1.far (p := ⟨ga, j * 2, none⟩) (fun h => own_ne H58.out.2.2.2.2.2.2 H58.out.2.1 (by decide) (by rw [h]; rfl)) (vi mn), (by rw [HPV.out]; exact H58.out.2.2.1.far (p := ⟨ga, j * 2, none⟩) (fun h => own_ne H58.out.2.2.2.2.2.2 H58.out.2.2.1 (by decide) (by rw [h]; rfl)) (vi mn)), HPK.out⟩ ?_
                  rintro w59 ⟨g0_, g1_, g2_, g3_⟩
                  have H60 := Lib.hid (And.intro (g0_) (And.intro (g1_) (And.intro (g2_) (g3_))))
                  clear g0_ g1_ g2_ g3_ H58 hpx hpv HOW HPK hpj hfr c0a hkl hjn
                  clear HPV
                  have z0 := H60.out.2.2.1.at 0 (v := vi px.years) rfl
                  have z1 := H60.out.2.2.1.at 1 (v := vi px.slopes) rfl
                  have z2 := H60.out.2.2.1.at 2 (v := .slice px.wa px.ws.length px.wc) rfl
                  have z3 := H60.out.2.2.1.at 3 (v := .slice px.na px.ns.length px.nc) rfl
                  have z4 := H60.out.2.2.1.at 4 (v := .slice px.va px.vs.length px.vc) rfl
                  have z5 := H60.out.2.2.1.at 5 (v := .slice px.pa px.ps.length px.pc) rfl
                  obtain ⟨fx, hfx⟩ : ∃ fx, fx = faultN px.pj := ⟨_, rfl⟩
                  have HFX2 := Lib.hid hfx
                  have hrf := refFault px w59 H60.out.2.2.2 HFX.out
                  rw [← hfx] at hrf
                  have HRX := Lib.hid hrf
                  clear hrf hfx
                  go_wp2_with fail
                  refine (HRX.out).mono ?_
                  rintro e w61 ⟨rfl, hb⟩
                  have H62 := Lib.hid (And.intro ((newer_trans H60.out.1 hb)) (And.intro ((H60.out.2.1.below hb H60.out.2.1.lt)) (And.intro ((H60.out.2.2.1.below hb H60.out.2.2.1.lt)) ((H60.out.2.2.2.next hb)))))
                  clear hb HRX H60 z0 z1 z2 z3 z4 z5
                  by_cases hf0 : fx = 0
                  case neg =>
                    have b2 : (fx != 0) = true := by simpa using hf0
                    clear hf0
                    go_wp2_with (go_at_call 17; refine (wakes_any _).mono ?_; rintro e w' ⟨rfl, hwk⟩; have HWK := Lib.hid (newer_trans H62.out.1 hwk); clear hwk)
                    go_ret
                    exact ⟨rfl, HWK.out⟩
                  subst hf0
                  obtain ⟨F, hF⟩ : ∃ F, F = bestE px.pj := ⟨_, rfl⟩
                  have HFF := Lib.hid hF
                  obtain ⟨cx, hcx⟩ : ∃ cx, cx = costOf (bestR px.pj) := ⟨_, rfl⟩
                  have HCX := Lib.hid hcx
                  obtain ⟨LX, hLX⟩ : ∃ LX, LX = bestL px.pj := ⟨_, rfl⟩
                  have HTX := Lib.hid (few_of (fault_ok HFX2.out.symm))
                  have HBX := Lib.hid (fun (p1 : Pm) (V : World) (hj : p1.pj = px.pj) (hok : PmOk p1 V) (hpc : p1.ps.length ≤ p1.pc) => best_list hj hok (few_of (pjOk_of (faultOk_iff.1 (by rw [hj]; exact HFX2.out.symm)))) hpc)
                  rw [← hF, ← hcx, ← hLX] at HBX
                  clear hF hcx hLX
                  have hmo := HMO.out HFX2.out.symm
                  unfold MoreOk at hmo
                  rw [← HEE.out, ← HCQ.out, ← HFF.out, ← HCX.out] at hmo
                  have HMX := Lib.hid hmo
                  have HE2 : Hid (E = 0 ∨ E = 9) := Lib.hid (by rw [HEE.out]; exact bestE_9 HFZ.out)
                  have HF2 : Hid (F = 0 ∨ F = 9) := Lib.hid (by rw [HFF.out]; exact bestE_9 HFX2.out.symm)
                  clear hmo HMO
                  have x0 := H62.out.2.1.at 0 (v := vi p.years) rfl
                  have x1 := H62.out.2.1.at 1 (v := vi p.slopes) rfl
                  have x2 := H62.out.2.1.at 2 (v := .slice p.wa p.ws.length p.wc) rfl
                  have x3 := H62.out.2.1.at 3 (v := .slice p.na p.ns.length p.nc) rfl
                  have x4 := H62.out.2.1.at 4 (v := .slice p.va p.vs.length p.vc) rfl
                  have x5 := H62.out.2.1.at 5 (v := .slice p.pa p.ps.length p.pc) rfl
                  go_wp2_with fail
                  refine (lawProject p w61 (HOK.out.next H62.out.1) HF.out).mono ?_
                  rintro e w63 ⟨⟨p1, rfl, hj1, ho1, hpc1⟩, hb⟩
                  have HJ1 := Lib.hid (And.intro hj1 hpc1)
                  clear hj1 hpc1
                  have H64 := Lib.hid (And.intro ((newer_trans H62.out.1 hb)) (And.intro ((H62.out.2.1.below hb H62.out.2.1.lt)) (And.intro ((H62.out.2.2.1.below hb H62.out.2.2.1.lt)) (And.intro ((H62.out.2.2.2.next hb)) (ho1)))))
                  clear hb ho1 H62 x0 x1 x2 x3 x4 x5
                  go_wp2_with fail
                  refine (HBP.out p1 _ HJ1.out.1 H64.out.2.2.2.2 HJ1.out.2).mono ?_
                  rintro e w65 ⟨⟨A4, c4, rfl, -⟩, hb⟩
                  have H66 := Lib.hid (And.intro ((newer_trans H64.out.1 hb)) (And.intro ((H64.out.2.1.below hb H64.out.2.1.lt)) (And.intro ((H64.out.2.2.1.below hb H64.out.2.2.1.lt)) ((H64.out.2.2.2.1.next hb)))))
                  clear hb HJ1 HBP H64
                  have z0 := H66.out.2.2.1.at 0 (v := vi px.years) rfl
                  have z1 := H66.out.2.2.1.at 1 (v := vi px.slopes) rfl
                  have z2 := H66.out.2.2.1.at 2 (v := .slice px.wa px.ws.length px.wc) rfl
                  have z3 := H66.out.2.2.1.at 3 (v := .slice px.na px.ns.length px.nc) rfl
                  have z4 := H66.out.2.2.1.at 4 (v := .slice px.va px.vs.length px.vc) rfl
                  have z5 := H66.out.2.2.1.at 5 (v := .slice px.pa px.ps.length px.pc) rfl
                  go_wp2_with fail
                  refine (lawProject px w65 H66.out.2.2.2 HTX.out).mono ?_
                  rintro e w67 ⟨⟨p1, rfl, hj1, ho1, hpc1⟩, hb⟩
                  have HJ1 := Lib.hid (And.intro hj1 hpc1)
                  clear hj1 hpc1
                  have H68 := Lib.hid (And.intro ((newer_trans H66.out.1 hb)) (And.intro ((H66.out.2.1.below hb H66.out.2.1.lt)) (And.intro ((H66.out.2.2.1.below hb H66.out.2.2.1.lt)) (And.intro ((H66.out.2.2.2.next hb)) (ho1)))))
                  clear hb ho1 H66 z0 z1 z2 z3 z4 z5
                  go_wp2_with fail
                  refine (HBX.out p1 _ HJ1.out.1 H68.out.2.2.2.2 HJ1.out.2).mono ?_
                  rintro e w69 ⟨⟨A5, c5, rfl, -⟩, hb⟩
                  have H70 := Lib.hid (And.intro ((newer_trans H68.out.1 hb)) (And.intro ((H68.out.2.1.below hb H68.out.2.1.lt)) (And.intro ((H68.out.2.2.1.below hb H68.out.2.2.1.lt)) ((H68.out.2.2.2.1.next hb)))))
                  clear hb HJ1 HBX H68
                  have h10 := HB.out.1
                  have h11 := HB.out.2.1
                  have em := HM.out.1
                  have em2 : a1 % 6 = 3 := by rw [← Int.tmod_eq_emod_of_nonneg h10]; exact em
                  rcases HE2.out with he | he <;> rcases HF2.out with hf | hf
                  · have hle := (HMX.out.1 (by decide) he).2
                    subst he
                    subst hf
                    go_wp2_with (go_at_call 17; refine (wakes_any _).mono ?_; rintro e w' ⟨rfl, hwk⟩; have HWK := Lib.hid (newer_trans H70.out.1 hwk); clear hwk)
                    go_ret
                    exact ⟨rfl, HWK.out⟩
                  · exact absurd (hf.symm.trans (HMX.out.1 (by decide) he).1) (by decide)
                  · subst he
                    subst hf
                    go_wp2_with (go_at_call 17; refine (wakes_any _).mono ?_; rintro e w' ⟨rfl, hwk⟩; have HWK := Lib.hid (newer_trans H70.out.1 hwk); clear hwk)
                    go_ret
                    exact ⟨rfl, HWK.out⟩
                  · subst he
                    subst hf
                    go_wp2_with (go_at_call 17; refine (wakes_any _).mono ?_; rintro e w' ⟨rfl, hwk⟩; have HWK := Lib.hid (newer_trans H70.out.1 hwk); clear hwk)
                    go_ret
                    exact ⟨rfl, HWK.out⟩
          · go_upto_region 21 with fail
            clear c54 ek hne em em2 h10 h11 h20 h21 h30 h31
            obtain ⟨b2, o2, e2, _, d0, d1, d2, d3, d4, d5⟩ := row6 (row_of_own (enc := wkL) (size := 6) (by omega) (fun _ => rfl) H14.out.2.2.2.2.1) HX.out
            simp only [Option.some.injEq, Addr.mk.injEq, and_true] at e2
            obtain ⟨rfl, rfl⟩ := e2
            simp only [Nat.zero_add] at d0 d1 d2 d3 d4 d5
            have hkl := HK.out.2
            refine wp_words (by kernel_rfl) (region_told 8 (by kernel_rfl) (by kernel_rfl) (fun W => Below w13.heap.size w13 W) newer (pickD [vIs (.pointer (some ⟨xb, 2, none⟩)), vIs (.slice (some ⟨g1, 0, none⟩) p.ws.length c1), vIs (.pointer (some ⟨xb, 2, none⟩)), vIs (.slice (some ⟨g1, 0, none⟩) p.ws.length c1), vIs (.int .i64 k), vIs (.pointer (some ⟨g1, k * 6, none⟩)), vIs (wkV x), vOne w13.heap.size 63 (wkC x)]) (fun h k => newer_trans h k) (pickD_stable _ ⟨vIs_st, vIs_st, vIs_st, vIs_st, vIs_st, vIs_st, vIs_st, vOne_st, trivial⟩) (Below.refl _ w13).drew (Below.refl _ _) ?_ ?_)
            · refine ⟨?_, ?_, ?_, ?_, ?_, ?_, ?_, ?_, trivial⟩
              · intro a W hG hR hO hp
                have h11 := hO.slot 11 (by kernel_rfl)
                refine wp_yields (v := .pointer (some ⟨xb, 2, none⟩)) ?_ ⟨_, rfl, rfl, Below.refl _ _, hG⟩
                simp [slotOf] at h11
                simp [execOp, go_sem, h11]
              · intro a W hG hR hO hp
                have h177 : slotOf a 177 = .pointer (some ⟨xb, 2, none⟩) := hp.1
                have c0 := keep_cell z2 hG
                refine wp_yields (v := .slice (some ⟨g1, 0, none⟩) p.ws.length c1) ?_ ⟨_, rfl, rfl, Below.refl _ _, hG⟩
                simp [slotOf] at h177
                simp [execOp, go_sem, h177, c0]
              · intro a W hG hR hO hp
                have h11 := hO.slot 11 (by kernel_rfl)
                refine wp_yields (v := .pointer (some ⟨xb, 2, none⟩)) ?_ ⟨_, rfl, rfl, Below.refl _ _, hG⟩
                simp [slotOf] at h11
                simp [execOp, go_sem, h11]
              · intro a W hG hR hO hp
                have h179 : slotOf a 179 = .pointer (some ⟨xb, 2, none⟩) := hp.1
                have c0 := keep_cell z2 hG
                refine wp_yields (v := .slice (some ⟨g1, 0, none⟩) p.ws.length c1) ?_ ⟨_, rfl, rfl, Below.refl _ _, hG⟩
                simp [slotOf] at h179
                simp [execOp, go_sem, h179, c0]
              · intro a W hG hR hO hp
                have h12 := hO.slot 12 (by kernel_rfl)
                refine wp_yields (v := .int .i64 k) ?_ ⟨_, rfl, rfl, Below.refl _ _, hG⟩
                simp [slotOf] at h12
                simp [execOp, go_sem, h12]
              · intro a W hG hR hO hp
                have h180 : slotOf a 180 = .slice (some ⟨g1, 0, none⟩) p.ws.length c1 := hp.1
                have h181 : slotOf a 181 = .int .i64 k := hp.2.1
                refine wp_yields (v := .pointer (some ⟨g1, k * 6, none⟩)) ?_ ⟨_, rfl, rfl, Below.refl _ _, hG⟩
                simp [slotOf] at h180 h181
                simp [execOp, go_sem, h180, h181, hkl]
              · intro a W hG hR hO hp
                have h182 : slotOf a 182 = .pointer (some ⟨g1, k * 6, none⟩) := hp.1
                have c0 := keep_cell d0 hG
                have c1 := keep_cell d1 hG
                have c2 := keep_cell d2 hG
                have c3 := keep_cell d3 hG
                have c4 := keep_cell d4 hG
                have c5 := keep_cell d5 hG
                refine wp_yields (v := wkV x) ?_ ⟨_, rfl, rfl, Below.refl _ _, hG⟩
                simp [slotOf] at h182
                simp [execOp, go_sem, h182, c0, c1, c2, c3, c4, c5]
              · intro a W hG hR hO hp
                have h183 : slotOf a 183 = wkV x := hp.1
                have h183 : slotOf a 183 = wkV x := hp.1
                refine wp_makes (v := .slice (some ⟨W.heap.size, 0, none⟩) 1 1) (W' := W.alloc (.cells (wkC x) 63)) ?_ ⟨_, rfl, ⟨_, rfl, hG.size, Whole.made _ _ _⟩, newer_allocH _ _, hG.alloc hG.size _⟩
                simp [slotOf] at h183
                simp [execOp, go_sem, h183]
            · intro wz hG hR
              rintro _ rfl _ rfl _ rfl _ rfl _ rfl _ rfl _ rfl _ ⟨nb, rfl, hnb, hWn⟩
              change wpList _ _ _ _ _ _
              simp only [Act.put, List.setIfInBounds_toArray, List.set_cons_zero, List.set_cons_succ, List.drop_succ_cons, List.drop_zero]
              have HNB := Lib.hid (And.intro hnb (World.news_of_block hWn))
              clear hR hnb hWn
              have H71 := Lib.hid (And.intro ((newer_trans H14.out.1 hG)) (And.intro ((H14.out.2.1.below hG H14.out.2.1.lt)) (And.intro ((H14.out.2.2.2.1.below hG H14.out.2.2.2.1.lt)) (And.intro ((own_below H14.out.2.2.2.2.1 hG)) (And.intro ((own_below H14.out.2.2.2.2.2.1 hG)) ((own_below H14.out.2.2.2.2.2.2 hG)))))))
              clear hG H14 z0 z1 z2 z3 z4 z5 x0 x1 x2 x3 x4 x5 hw0 hn0 hp0 hwn hnn hkl d0 d1 d2 d3 d4 d5
              obtain ⟨hi0, hz0, hz1, hz2⟩ := HI63.out
              have hbz := H71.out.1.size
              obtain ⟨hw0, hn0, hp0, hwn, hnn⟩ := HLN.out
              refine wpList_append_lies _ rfl (.tmp 178) (.tmp 184) 22 rfl w.heap.size 63 i63 (.agg #[vi 0, vi 0, vi 0, vi 0, vi 0, .slice none 0 0]) 6 64 Try.underlying22 hi0 hz0 hz1 hz2 rfl (by omega) _ p.ws.length _ rfl H71.out.2.2.2.1 ⟨nb, 0, none⟩ 1 1 (wkL x) rfl rfl HNB.out.2 (by simp [Value.oneCell']) (by omega) (by unfold maxLen; omega) (by omega) hbz wz.heap.size rfl ?_
              intro gg cp2 w5 hown2 hgrow2 hat2 hlt2
              have HOG := Lib.hid hown2
              clear hat2 hlt2 hi0 hz0 hz1 hz2 hbz hw0 hn0 hp0 hwn hnn hown2
              have H72 := Lib.hid (And.intro ((H71.out.1.grown hgrow2 H71.out.1.size (own_ge H71.out.2.2.2.1))) (And.intro ((H71.out.2.1.grown hgrow2 (own_ne H71.out.2.2.2.1 H71.out.2.1 (by decide)).symm)) (And.intro ((H71.out.2.2.1.grown hgrow2 (own_ne H71.out.2.2.2.1 H71.out.2.2.1 (by decide)).symm)) (And.intro ((H71.out.2.2.2.2.1.kept hgrow2 (own_apart H71.out.2.2.2.2.1 H71.out.2.2.2.1 (by decide)))) (And.intro ((H71.out.2.2.2.2.2.kept hgrow2 (own_apart H71.out.2.2.2.2.2 H71.out.2.2.2.1 (by decide)))) (HOG.out))))))
              clear hgrow2 HNB HOG H71
              have z2 := H72.out.2.2.1.at 2 (v := .slice (some ⟨g1, 0, none⟩) p.ws.length c1) rfl
              have hfr := H72.out.2.2.1.free 2
              simp only [Act.put, List.setIfInBounds_toArray, List.set_cons_zero, List.set_cons_succ]
              go_upto_region 22 with fail
              obtain ⟨px, hpx⟩ : ∃ px : Pm, px = { p with ws := p.ws ++ [x], wa := some ⟨gg, 0, none⟩, wc := cp2, na := some ⟨g2, 0, none⟩, nc := c2, pa := some ⟨g3, 0, none⟩, pc := qc } := ⟨_, rfl⟩
              have hpv : pmC px = #[vi p.years, vi p.slopes, .slice (some ⟨gg, 0, none⟩) (p.ws.length + 1) cp2, .slice (some ⟨g2, 0, none⟩) p.ns.length c2, .slice p.va p.vs.length p.vc, .slice (some ⟨g3, 0, none⟩) p.ps.length qc] := by rw [hpx]; simp
              have hpj : px.pj = { p.pj with works := p.pj.works ++ [x.d] } := by
                rw [hpx]
                simp only [Pm.pj, List.map_append, List.map_cons, List.map_nil]
              have HPV := Lib.hid hpv
              have HFX : Hid (PmFew px) := Lib.hid (more_few HF.out (by rw [hpx]; (have h := HLN.out.2.2.2.1; simp; omega)) (by rw [hpx]; (intro z hz; rcases List.mem_append.1 hz with hz | hz; exact HF.out.ad z hz; (obtain rfl := List.mem_singleton.1 hz; exact HF.out.ad z (List.mem_of_getElem? HX.out)))) (by rw [hpx]; exact HF.out.ns) (by rw [hpx]) (by rw [hpx]; exact HF.out.ps))
              have HMO : Hid (faultN px.pj = 0 → MoreOk 4 p.pj px.pj) := Lib.hid (fun h => ⟨fun _ hb => by rw [hpj] at h ⊢; exact one_work HFZ.out  h hb, fun h => absurd h (by decide)⟩)
              have HPX := Lib.hid hpx
              refine genQ (fun X => newer w X ∧ Whole X w.heap.size 27 (pmC p) ∧ Whole X xb 27 #[vi p.years, vi p.slopes, .slice (some ⟨gg, 0, none⟩) (p.ws.length + 1) cp2, .slice (some ⟨g2, 0, none⟩) p.ns.length c2, .slice p.va p.vs.length p.vc, .slice (some ⟨g3, 0, none⟩) p.ps.length qc] ∧ X.ownsRow w.heap.size 60 3 (.slice (some ⟨g2, 0, none⟩) p.ns.length c2) p.ns.length (p.ns.flatMap ndL) ∧ X.ownsRow w.heap.size 3 1 (.slice (some ⟨g3, 0, none⟩) p.ps.length qc) p.ps.length (p.ps.flatMap intL) ∧ X.ownsRow w.heap.size 63 6 (.slice (some ⟨gg, 0, none⟩) (p.ws.length + 1) cp2) (p.ws.length + 1) (p.ws.flatMap wkL ++ (wkL x))) ⟨(H72.out.1.setCell (p := ⟨xb, 2, none⟩) Lxb.out.1 (.slice (some ⟨gg, 0, none⟩) (p.ws.length + 1) cp2)), (H72.out.2.1.far (p := ⟨xb, 2, none⟩) (Nat.ne_of_lt Lxb.out.2.1) (.slice (some ⟨gg, 0, none⟩) (p.ws.length + 1) cp2)), (H72.out.2.2.1.set 2 (.slice (some ⟨gg, 0, none⟩) (p.ws.length + 1) cp2)), (own_set (i := 2) H72.out.2.2.2.1 (own_ne H72.out.2.2.2.1 H72.out.2.2.1 (by decide)) (.slice (some ⟨gg, 0, none⟩) (p.ws.length + 1) cp2)), (own_set (i := 2) H72.out.2.2.2.2.1 (own_ne H72.out.2.2.2.2.1 H72.out.2.2.1 (by decide)) (.slice (some ⟨gg, 0, none⟩) (p.ws.length + 1) cp2)), (own_set (i := 2) H72.out.2.2.2.2.2 (own_ne H72.out.2.2.2.2.2 H72.out.2.2.1 (by decide)) (.slice (some ⟨gg, 0, none⟩) (p.ws.length + 1) cp2))⟩ ?_
              rintro w73 ⟨g0_, g1_, g2_, g3_, g4_, g5_⟩
              have H74 := Lib.hid (And.intro (g0_) (And.intro (g1_) (And.intro (g2_) (And.intro (g3_) (And.intro (g4_) (g5_))))))
              clear g0_ g1_ g2_ g3_ g4_ g5_ H72 z2 hpx hpv hpj hfr
              have HPK := Lib.hid (show PmOk px w73 by
                  have h := HOK.out.next H74.out.1
                  rw [HPX.out]
                  refine ⟨?_, ?_, ?_, h.vs, ?_⟩
                  · exact row_of_own (enc := wkL) (size := 6) (by omega) (fun _ => rfl) (by simpa using H74.out.2.2.2.2.2)
                  · intro z hz
                    rcases List.mem_append.1 hz with hz | hz
                    · exact h.ad z hz
                    · obtain rfl := List.mem_singleton.1 hz
                      exact h.ad z (List.mem_of_getElem? HX.out)
                  · exact row_of_own (enc := ndL) (size := 3) (by omega) (fun _ => rfl) (by simpa using H74.out.2.2.2.1)
                  · exact row_of_own (enc := intL) (size := 1) (by omega) (fun _ => rfl) (by simpa using H74.out.2.2.2.2.1))
              have H75 := Lib.hid (And.intro (H74.out.1) (And.intro (H74.out.2.1) (And.intro ((show Whole w73 xb 27 (pmC px) by rw [HPV.out]; exact H74.out.2.2.1)) (HPK.out))))
              clear H74 HPV HPK HPX
              have z0 := H75.out.2.2.1.at 0 (v := vi px.years) rfl
              have z1 := H75.out.2.2.1.at 1 (v := vi px.slopes) rfl
              have z2 := H75.out.2.2.1.at 2 (v := .slice px.wa px.ws.length px.wc) rfl
              have z3 := H75.out.2.2.1.at 3 (v := .slice px.na px.ns.length px.nc) rfl
              have z4 := H75.out.2.2.1.at 4 (v := .slice px.va px.vs.length px.vc) rfl
              have z5 := H75.out.2.2.1.at 5 (v := .slice px.pa px.ps.length px.pc) rfl
              obtain ⟨fx, hfx⟩ : ∃ fx, fx = faultN px.pj := ⟨_, rfl⟩
              have HFX2 := Lib.hid hfx
              have hrf := refFault px w73 H75.out.2.2.2 HFX.out
              rw [← hfx] at hrf
              have HRX := Lib.hid hrf
              clear hrf hfx
              go_wp2_with fail
              refine (HRX.out).mono ?_
              rintro e w76 ⟨rfl, hb⟩
              have H77 := Lib.hid (And.intro ((newer_trans H75.out.1 hb)) (And.intro ((H75.out.2.1.below hb H75.out.2.1.lt)) (And.intro ((H75.out.2.2.1.below hb H75.out.2.2.1.lt)) ((H75.out.2.2.2.next hb)))))
              clear hb HRX H75 z0 z1 z2 z3 z4 z5
              by_cases hf0 : fx = 0
              case neg =>
                have b2 : (fx != 0) = true := by simpa using hf0
                clear hf0
                go_wp2_with (go_at_call 17; refine (wakes_any _).mono ?_; rintro e w' ⟨rfl, hwk⟩; have HWK := Lib.hid (newer_trans H77.out.1 hwk); clear hwk)
                go_ret
                exact ⟨rfl, HWK.out⟩
              subst hf0
              obtain ⟨F, hF⟩ : ∃ F, F = bestE px.pj := ⟨_, rfl⟩
              have HFF := Lib.hid hF
              obtain ⟨cx, hcx⟩ : ∃ cx, cx = costOf (bestR px.pj) := ⟨_, rfl⟩
              have HCX := Lib.hid hcx
              obtain ⟨LX, hLX⟩ : ∃ LX, LX = bestL px.pj := ⟨_, rfl⟩
              have HTX := Lib.hid (few_of (fault_ok HFX2.out.symm))
              have HBX := Lib.hid (fun (p1 : Pm) (V : World) (hj : p1.pj = px.pj) (hok : PmOk p1 V) (hpc : p1.ps.length ≤ p1.pc) => best_list hj hok (few_of (pjOk_of (faultOk_iff.1 (by rw [hj]; exact HFX2.out.symm)))) hpc)
              rw [← hF, ← hcx, ← hLX] at HBX
              clear hF hcx hLX
              have hmo := HMO.out HFX2.out.symm
              unfold MoreOk at hmo
              rw [← HEE.out, ← HCQ.out, ← HFF.out, ← HCX.out] at hmo
              have HMX := Lib.hid hmo
              have HE2 : Hid (E = 0 ∨ E = 9) := Lib.hid (by rw [HEE.out]; exact bestE_9 HFZ.out)
              have HF2 : Hid (F = 0 ∨ F = 9) := Lib.hid (by rw [HFF.out]; exact bestE_9 HFX2.out.symm)
              clear hmo HMO
              have x0 := H77.out.2.1.at 0 (v := vi p.years) rfl
              have x1 := H77.out.2.1.at 1 (v := vi p.slopes) rfl
              have x2 := H77.out.2.1.at 2 (v := .slice p.wa p.ws.length p.wc) rfl
              have x3 := H77.out.2.1.at 3 (v := .slice p.na p.ns.length p.nc) rfl
              have x4 := H77.out.2.1.at 4 (v := .slice p.va p.vs.length p.vc) rfl
              have x5 := H77.out.2.1.at 5 (v := .slice p.pa p.ps.length p.pc) rfl
              go_wp2_with fail
              refine (lawProject p w76 (HOK.out.next H77.out.1) HF.out).mono ?_
              rintro e w78 ⟨⟨p1, rfl, hj1, ho1, hpc1⟩, hb⟩
              have HJ1 := Lib.hid (And.intro hj1 hpc1)
              clear hj1 hpc1
              have H79 := Lib.hid (And.intro ((newer_trans H77.out.1 hb)) (And.intro ((H77.out.2.1.below hb H77.out.2.1.lt)) (And.intro ((H77.out.2.2.1.below hb H77.out.2.2.1.lt)) (And.intro ((H77.out.2.2.2.next hb)) (ho1)))))
              clear hb ho1 H77 x0 x1 x2 x3 x4 x5
              go_wp2_with fail
              refine (HBP.out p1 _ HJ1.out.1 H79.out.2.2.2.2 HJ1.out.2).mono ?_
              rintro e w80 ⟨⟨A4, c4, rfl, -⟩, hb⟩
              have H81 := Lib.hid (And.intro ((newer_trans H79.out.1 hb)) (And.intro ((H79.out.2.1.below hb H79.out.2.1.lt)) (And.intro ((H79.out.2.2.1.below hb H79.out.2.2.1.lt)) ((H79.out.2.2.2.1.next hb)))))
              clear hb HJ1 HBP H79
              have z0 := H81.out.2.2.1.at 0 (v := vi px.years) rfl
              have z1 := H81.out.2.2.1.at 1 (v := vi px.slopes) rfl
              have z2 := H81.out.2.2.1.at 2 (v := .slice px.wa px.ws.length px.wc) rfl
              have z3 := H81.out.2.2.1.at 3 (v := .slice px.na px.ns.length px.nc) rfl
              have z4 := H81.out.2.2.1.at 4 (v := .slice px.va px.vs.length px.vc) rfl
              have z5 := H81.out.2.2.1.at 5 (v := .slice px.pa px.ps.length px.pc) rfl
              go_wp2_with fail
              refine (lawProject px w80 H81.out.2.2.2 HTX.out).mono ?_
              rintro e w82 ⟨⟨p1, rfl, hj1, ho1, hpc1⟩, hb⟩
              have HJ1 := Lib.hid (And.intro hj1 hpc1)
              clear hj1 hpc1
              have H83 := Lib.hid (And.intro ((newer_trans H81.out.1 hb)) (And.intro ((H81.out.2.1.below hb H81.out.2.1.lt)) (And.intro ((H81.out.2.2.1.below hb H81.out.2.2.1.lt)) (And.intro ((H81.out.2.2.2.next hb)) (ho1)))))
              clear hb ho1 H81 z0 z1 z2 z3 z4 z5
              go_wp2_with fail
              refine (HBX.out p1 _ HJ1.out.1 H83.out.2.2.2.2 HJ1.out.2).mono ?_
              rintro e w84 ⟨⟨A5, c5, rfl, -⟩, hb⟩
              have H85 := Lib.hid (And.intro ((newer_trans H83.out.1 hb)) (And.intro ((H83.out.2.1.below hb H83.out.2.1.lt)) (And.intro ((H83.out.2.2.1.below hb H83.out.2.2.1.lt)) ((H83.out.2.2.2.1.next hb)))))
              clear hb HJ1 HBX H83
              have h10 := HB.out.1
              have h11 := HB.out.2.1
              have em := HM.out.1
              have em2 : a1 % 6 = 4 := by rw [← Int.tmod_eq_emod_of_nonneg h10]; exact em
              rcases HE2.out with he | he <;> rcases HF2.out with hf | hf
              · have hle := (HMX.out.1 (by decide) he).2
                subst he
                subst hf
                go_wp2_with (go_at_call 17; refine (wakes_any _).mono ?_; rintro e w' ⟨rfl, hwk⟩; have HWK := Lib.hid (newer_trans H85.out.1 hwk); clear hwk)
                go_ret
                exact ⟨rfl, HWK.out⟩
              · exact absurd (hf.symm.trans (HMX.out.1 (by decide) he).1) (by decide)
              · subst he
                subst hf
                go_wp2_with (go_at_call 17; refine (wakes_any _).mono ?_; rintro e w' ⟨rfl, hwk⟩; have HWK := Lib.hid (newer_trans H85.out.1 hwk); clear hwk)
                go_ret
                exact ⟨rfl, HWK.out⟩
              · subst he
                subst hf
                go_wp2_with (go_at_call 17; refine (wakes_any _).mono ?_; rintro e w' ⟨rfl, hwk⟩; have HWK := Lib.hid (newer_trans H85.out.1 hwk); clear hwk)
                go_ret
                exact ⟨rfl, HWK.out⟩
          · go_upto_region 7 with fail
            clear c54 ek hne em em2 h10 h11 h20 h21 h30 h31
            have y0 := H14.out.2.2.1.at 0 (v := vi nd.slope) rfl
            have y1 := H14.out.2.2.1.at 1 (v := vi nd.year) rfl
            have y2 := H14.out.2.2.1.at 2 (v := vi nd.due) rfl
            have H86 := Lib.hid (And.intro ((newer_trans H14.out.1 (newer_allocH w13 (.cells #[vi nd.slope, vi nd.year, vi nd.due] 60)))) (And.intro ((H14.out.2.1.below (newer_allocH w13 (.cells #[vi nd.slope, vi nd.year, vi nd.due] 60)) H14.out.2.1.lt)) (And.intro ((H14.out.2.2.2.1.below (newer_allocH w13 (.cells #[vi nd.slope, vi nd.year, vi nd.due] 60)) H14.out.2.2.2.1.lt)) (And.intro ((own_below H14.out.2.2.2.2.1 (newer_allocH w13 (.cells #[vi nd.slope, vi nd.year, vi nd.due] 60)))) (And.intro ((own_below H14.out.2.2.2.2.2.1 (newer_allocH w13 (.cells #[vi nd.slope, vi nd.year, vi nd.due] 60)))) ((own_below H14.out.2.2.2.2.2.2 (newer_allocH w13 (.cells #[vi nd.slope, vi nd.year, vi nd.due] 60)))))))))
            clear H14
            have HNB := Lib.hid (World.news_of_block (Whole.made w13 60 #[vi nd.slope, vi nd.year, vi nd.due]))
            obtain ⟨hi0, hz0, hz1, hz2⟩ := HI60.out
            have hbz := H86.out.1.size
            obtain ⟨hw0, hn0, hp0, hwn, hnn⟩ := HLN.out
            go_upto_region 22 with (at_builtin; go_loud (refine wpList_append_lies _ rfl (.tmp 62) (.tmp 64) 23 rfl w.heap.size 60 i60 (.agg #[vi 0, vi 0, vi 0]) 3 24 Try.underlying23 hi0 hz0 hz1 hz2 rfl (by omega) _ p.ns.length _ rfl H86.out.2.2.2.2.1 ⟨w13.heap.size, 0, none⟩ 1 1 (ndL nd) rfl rfl HNB.out (by simp [Value.oneCell']) (by omega) (by unfold maxLen; omega) (by omega) hbz (w13.heap.size + 1) (by simp) ?_; intro gg cp2 w5 hown2 hgrow2 hat2 hlt2; have HOG := Lib.hid hown2; clear hat2 hlt2 hi0 hz0 hz1 hz2 hbz hw0 hn0 hp0 hwn hnn hown2 z0 z1 z2 z3 z4 z5 x0 x1 x2 x3 x4 x5 y0 y1 y2; have H87 := Lib.hid (And.intro ((H86.out.1.grown hgrow2 H86.out.1.size (own_ge H86.out.2.2.2.2.1))) (And.intro ((H86.out.2.1.grown hgrow2 (own_ne H86.out.2.2.2.2.1 H86.out.2.1 (by decide)).symm)) (And.intro ((H86.out.2.2.1.grown hgrow2 (own_ne H86.out.2.2.2.2.1 H86.out.2.2.1 (by decide)).symm)) (And.intro ((H86.out.2.2.2.1.kept hgrow2 (own_apart H86.out.2.2.2.1 H86.out.2.2.2.2.1 (by decide)))) (And.intro ((H86.out.2.2.2.2.2.kept hgrow2 (own_apart H86.out.2.2.2.2.2 H86.out.2.2.2.2.1 (by decide)))) (HOG.out)))))); clear hgrow2 HNB HOG H86; have z3 := H87.out.2.2.1.at 3 (v := .slice (some ⟨g2, 0, none⟩) p.ns.length c2) rfl; have hfr := H87.out.2.2.1.free 3))
            obtain ⟨px, hpx⟩ : ∃ px : Pm, px = { p with ns := p.ns ++ [nd], wa := some ⟨g1, 0, none⟩, wc := c1, na := some ⟨gg, 0, none⟩, nc := cp2, pa := some ⟨g3, 0, none⟩, pc := qc } := ⟨_, rfl⟩
            have hpv : pmC px = #[vi p.years, vi p.slopes, .slice (some ⟨g1, 0, none⟩) p.ws.length c1, .slice (some ⟨gg, 0, none⟩) (p.ns.length + 1) cp2, .slice p.va p.vs.length p.vc, .slice (some ⟨g3, 0, none⟩) p.ps.length qc] := by rw [hpx]; simp
            have hpj : px.pj = { p.pj with needs := p.pj.needs ++ [nd] } := by rw [hpx]; rfl
            have HPV := Lib.hid hpv
            have HFX : Hid (PmFew px) := Lib.hid (more_few HF.out (by rw [hpx]; exact HF.out.ws) (by rw [hpx]; exact HF.out.ad) (by rw [hpx]; (have h := HLN.out.2.2.2.2; simp; omega)) (by rw [hpx]) (by rw [hpx]; exact HF.out.ps))
            have HMO : Hid (faultN px.pj = 0 → MoreOk 5 p.pj px.pj) := Lib.hid (fun h => ⟨fun h => absurd rfl h, fun _ hb => by rw [hpj] at h hb ⊢; exact one_need HFZ.out h hb⟩)
            have HPX := Lib.hid hpx
            refine genQ (fun X => newer w X ∧ Whole X w.heap.size 27 (pmC p) ∧ Whole X xb 27 #[vi p.years, vi p.slopes, .slice (some ⟨g1, 0, none⟩) p.ws.length c1, .slice (some ⟨gg, 0, none⟩) (p.ns.length + 1) cp2, .slice p.va p.vs.length p.vc, .slice (some ⟨g3, 0, none⟩) p.ps.length qc] ∧ X.ownsRow w.heap.size 63 6 (.slice (some ⟨g1, 0, none⟩) p.ws.length c1) p.ws.length (p.ws.flatMap wkL) ∧ X.ownsRow w.heap.size 3 1 (.slice (some ⟨g3, 0, none⟩) p.ps.length qc) p.ps.length (p.ps.flatMap intL) ∧ X.ownsRow w.heap.size 60 3 (.slice (some ⟨gg, 0, none⟩) (p.ns.length + 1) cp2) (p.ns.length + 1) (p.ns.flatMap ndL ++ (ndL nd))) ⟨(H87.out.1.setCell (p := ⟨xb, 3, none⟩) Lxb.out.1 (.slice (some ⟨gg, 0, none⟩) (p.ns.length + 1) cp2)), (H87.out.2.1.far (p := ⟨xb, 3, none⟩) (Nat.ne_of_lt Lxb.out.2.1) (.slice (some ⟨gg, 0, none⟩) (p.ns.length + 1) cp2)), (H87.out.2.2.1.set 3 (.slice (some ⟨gg, 0, none⟩) (p.ns.length + 1) cp2)), (own_set (i := 3) H87.out.2.2.2.1 (own_ne H87.out.2.2.2.1 H87.out.2.2.1 (by decide)) (.slice (some ⟨gg, 0, none⟩) (p.ns.length + 1) cp2)), (own_set (i := 3) H87.out.2.2.2.2.1 (own_ne H87.out.2.2.2.2.1 H87.out.2.2.1 (by decide)) (.slice (some ⟨gg, 0, none⟩) (p.ns.length + 1) cp2)), (own_set (i := 3) H87.out.2.2.2.2.2 (own_ne H87.out.2.2.2.2.2 H87.out.2.2.1 (by decide)) (.slice (some ⟨gg, 0, none⟩) (p.ns.length + 1) cp2))⟩ ?_
            rintro w88 ⟨g0_, g1_, g2_, g3_, g4_, g5_⟩
            have H89 := Lib.hid (And.intro (g0_) (And.intro (g1_) (And.intro (g2_) (And.intro (g3_) (And.intro (g4_) (g5_))))))
            clear g0_ g1_ g2_ g3_ g4_ g5_ H87 z3 hpx hpv hpj hfr
            have HPK := Lib.hid (show PmOk px w88 by
                have h := HOK.out.next H89.out.1
                rw [HPX.out]
                refine ⟨?_, ?_, ?_, h.vs, ?_⟩
                · exact row_of_own (enc := wkL) (size := 6) (by omega) (fun _ => rfl) (by simpa using H89.out.2.2.2.1)
                · exact h.ad
                · exact row_of_own (enc := ndL) (size := 3) (by omega) (fun _ => rfl) (by simpa using H89.out.2.2.2.2.2)
                · exact row_of_own (enc := intL) (size := 1) (by omega) (fun _ => rfl) (by simpa using H89.out.2.2.2.2.1))
            have H90 := Lib.hid (And.intro (H89.out.1) (And.intro (H89.out.2.1) (And.intro ((show Whole w88 xb 27 (pmC px) by rw [HPV.out]; exact H89.out.2.2.1)) (HPK.out))))
            clear H89 HPV HPK HPX
            have z0 := H90.out.2.2.1.at 0 (v := vi px.years) rfl
            have z1 := H90.out.2.2.1.at 1 (v := vi px.slopes) rfl
            have z2 := H90.out.2.2.1.at 2 (v := .slice px.wa px.ws.length px.wc) rfl
            have z3 := H90.out.2.2.1.at 3 (v := .slice px.na px.ns.length px.nc) rfl
            have z4 := H90.out.2.2.1.at 4 (v := .slice px.va px.vs.length px.vc) rfl
            have z5 := H90.out.2.2.1.at 5 (v := .slice px.pa px.ps.length px.pc) rfl
            obtain ⟨fx, hfx⟩ : ∃ fx, fx = faultN px.pj := ⟨_, rfl⟩
            have HFX2 := Lib.hid hfx
            have hrf := refFault px w88 H90.out.2.2.2 HFX.out
            rw [← hfx] at hrf
            have HRX := Lib.hid hrf
            clear hrf hfx
            go_wp2_with fail
            refine (HRX.out).mono ?_
            rintro e w91 ⟨rfl, hb⟩
            have H92 := Lib.hid (And.intro ((newer_trans H90.out.1 hb)) (And.intro ((H90.out.2.1.below hb H90.out.2.1.lt)) (And.intro ((H90.out.2.2.1.below hb H90.out.2.2.1.lt)) ((H90.out.2.2.2.next hb)))))
            clear hb HRX H90 z0 z1 z2 z3 z4 z5
            by_cases hf0 : fx = 0
            case neg =>
              have b2 : (fx != 0) = true := by simpa using hf0
              clear hf0
              go_wp2_with (go_at_call 17; refine (wakes_any _).mono ?_; rintro e w' ⟨rfl, hwk⟩; have HWK := Lib.hid (newer_trans H92.out.1 hwk); clear hwk)
              go_ret
              exact ⟨rfl, HWK.out⟩
            subst hf0
            obtain ⟨F, hF⟩ : ∃ F, F = bestE px.pj := ⟨_, rfl⟩
            have HFF := Lib.hid hF
            obtain ⟨cx, hcx⟩ : ∃ cx, cx = costOf (bestR px.pj) := ⟨_, rfl⟩
            have HCX := Lib.hid hcx
            obtain ⟨LX, hLX⟩ : ∃ LX, LX = bestL px.pj := ⟨_, rfl⟩
            have HTX := Lib.hid (few_of (fault_ok HFX2.out.symm))
            have HBX := Lib.hid (fun (p1 : Pm) (V : World) (hj : p1.pj = px.pj) (hok : PmOk p1 V) (hpc : p1.ps.length ≤ p1.pc) => best_list hj hok (few_of (pjOk_of (faultOk_iff.1 (by rw [hj]; exact HFX2.out.symm)))) hpc)
            rw [← hF, ← hcx, ← hLX] at HBX
            clear hF hcx hLX
            have hmo := HMO.out HFX2.out.symm
            unfold MoreOk at hmo
            rw [← HEE.out, ← HCQ.out, ← HFF.out, ← HCX.out] at hmo
            have HMX := Lib.hid hmo
            have HE2 : Hid (E = 0 ∨ E = 9) := Lib.hid (by rw [HEE.out]; exact bestE_9 HFZ.out)
            have HF2 : Hid (F = 0 ∨ F = 9) := Lib.hid (by rw [HFF.out]; exact bestE_9 HFX2.out.symm)
            clear hmo HMO
            have x0 := H92.out.2.1.at 0 (v := vi p.years) rfl
            have x1 := H92.out.2.1.at 1 (v := vi p.slopes) rfl
            have x2 := H92.out.2.1.at 2 (v := .slice p.wa p.ws.length p.wc) rfl
            have x3 := H92.out.2.1.at 3 (v := .slice p.na p.ns.length p.nc) rfl
            have x4 := H92.out.2.1.at 4 (v := .slice p.va p.vs.length p.vc) rfl
            have x5 := H92.out.2.1.at 5 (v := .slice p.pa p.ps.length p.pc) rfl
            go_wp2_with fail
            refine (lawProject p w91 (HOK.out.next H92.out.1) HF.out).mono ?_
            rintro e w93 ⟨⟨p1, rfl, hj1, ho1, hpc1⟩, hb⟩
            have HJ1 := Lib.hid (And.intro hj1 hpc1)
            clear hj1 hpc1
            have H94 := Lib.hid (And.intro ((newer_trans H92.out.1 hb)) (And.intro ((H92.out.2.1.below hb H92.out.2.1.lt)) (And.intro ((H92.out.2.2.1.below hb H92.out.2.2.1.lt)) (And.intro ((H92.out.2.2.2.next hb)) (ho1)))))
            clear hb ho1 H92 x0 x1 x2 x3 x4 x5
            go_wp2_with fail
            refine (HBP.out p1 _ HJ1.out.1 H94.out.2.2.2.2 HJ1.out.2).mono ?_
            rintro e w95 ⟨⟨A4, c4, rfl, -⟩, hb⟩
            have H96 := Lib.hid (And.intro ((newer_trans H94.out.1 hb)) (And.intro ((H94.out.2.1.below hb H94.out.2.1.lt)) (And.intro ((H94.out.2.2.1.below hb H94.out.2.2.1.lt)) ((H94.out.2.2.2.1.next hb)))))
            clear hb HJ1 HBP H94
            have z0 := H96.out.2.2.1.at 0 (v := vi px.years) rfl
            have z1 := H96.out.2.2.1.at 1 (v := vi px.slopes) rfl
            have z2 := H96.out.2.2.1.at 2 (v := .slice px.wa px.ws.length px.wc) rfl
            have z3 := H96.out.2.2.1.at 3 (v := .slice px.na px.ns.length px.nc) rfl
            have z4 := H96.out.2.2.1.at 4 (v := .slice px.va px.vs.length px.vc) rfl
            have z5 := H96.out.2.2.1.at 5 (v := .slice px.pa px.ps.length px.pc) rfl
            go_wp2_with fail
            refine (lawProject px w95 H96.out.2.2.2 HTX.out).mono ?_
            rintro e w97 ⟨⟨p1, rfl, hj1, ho1, hpc1⟩, hb⟩
            have HJ1 := Lib.hid (And.intro hj1 hpc1)
            clear hj1 hpc1
            have H98 := Lib.hid (And.intro ((newer_trans H96.out.1 hb)) (And.intro ((H96.out.2.1.below hb H96.out.2.1.lt)) (And.intro ((H96.out.2.2.1.below hb H96.out.2.2.1.lt)) (And.intro ((H96.out.2.2.2.next hb)) (ho1)))))
            clear hb ho1 H96 z0 z1 z2 z3 z4 z5
            go_wp2_with fail
            refine (HBX.out p1 _ HJ1.out.1 H98.out.2.2.2.2 HJ1.out.2).mono ?_
            rintro e w99 ⟨⟨A5, c5, rfl, -⟩, hb⟩
            have H100 := Lib.hid (And.intro ((newer_trans H98.out.1 hb)) (And.intro ((H98.out.2.1.below hb H98.out.2.1.lt)) (And.intro ((H98.out.2.2.1.below hb H98.out.2.2.1.lt)) ((H98.out.2.2.2.1.next hb)))))
            clear hb HJ1 HBX H98
            have h10 := HB.out.1
            have h11 := HB.out.2.1
            have em := HM.out.1
            have em2 : a1 % 6 = 5 := by rw [← Int.tmod_eq_emod_of_nonneg h10]; exact em
            rcases HE2.out with he | he <;> rcases HF2.out with hf | hf
            · have hle := (HMX.out.2 (by decide) hf).2
              subst he
              subst hf
              go_wp2_with (go_at_call 17; refine (wakes_any _).mono ?_; rintro e w' ⟨rfl, hwk⟩; have HWK := Lib.hid (newer_trans H100.out.1 hwk); clear hwk)
              go_ret
              exact ⟨rfl, HWK.out⟩
            · subst he
              subst hf
              go_wp2_with (go_at_call 17; refine (wakes_any _).mono ?_; rintro e w' ⟨rfl, hwk⟩; have HWK := Lib.hid (newer_trans H100.out.1 hwk); clear hwk)
              go_ret
              exact ⟨rfl, HWK.out⟩
            · exact absurd (he.symm.trans (HMX.out.2 (by decide) hf).1) (by decide)
            · subst he
              subst hf
              go_wp2_with (go_at_call 17; refine (wakes_any _).mono ?_; rintro e w' ⟨rfl, hwk⟩; have HWK := Lib.hid (newer_trans H100.out.1 hwk); clear hwk)
              go_ret
              exact ⟨rfl, HWK.out⟩
end Go.Proofs.Ytpnpnfjhjjdmgaa
