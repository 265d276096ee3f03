/- Whether a plan is one, and what it adds, by the reference. -/
import Derived.Test.YtpnpnfjhjjdmgaaY
namespace Go.Proofs.Ytpnpnfjhjjdmgaa
open Go.RowKit Go.Deep

set_option maxRecDepth 100000 in
set_option maxHeartbeats 4000000 in
theorem refIsPlan (p : Pm) (plan : List Int) (L : Option Addr) (lp : Nat) (w : World) (hok : PmOk p w) (hl : plan.length ≤ 1000) (hr : Row intL 1 w w.heap.size L plan) :
    Calls Try.prog 23 #[pmV p, .slice L plan.length lp] w fun e w' => e = .returned (.bool (planB p.pj.works plan)) ∧ newer w w' := by
  have hnw := newer_allocH w (.cells (pmC p) 27)
  have H0 := Lib.hid (And.intro hnw (Whole.made w 27 (pmC p)))
  have x2 := H0.out.2.at 2 (v := .slice p.wa p.ws.length p.wc) rfl
  have HOK := Lib.hid hok
  have HR := Lib.hid hr
  have hwl : p.pj.works.length = p.ws.length := by simp [Pm.pj]
  have HL := Lib.hid hwl
  clear hnw hok hr hwl
  obtain ⟨res, hres⟩ : ∃ res, res = planB p.pj.works plan := ⟨_, rfl⟩
  have HRS := Lib.hid hres
  rw [← hres]
  clear hres
  by_cases hln : plan.length = p.ws.length
  case neg =>
    have hne : ((plan.length : Int) != p.ws.length) = true := by rw [bne_iff_ne]; omega
    have HRF : Hid (res = false) := Lib.hid (by
      rw [HRS.out]
      unfold planB
      rw [HL.out, decide_eq_false hln]
      rfl)
    clear hln
    go_enter Try.func23, Try.ntmps23
    go_wp2_with fail
    go_ret
    exact ⟨by rw [HRF.out] <;> rfl, H0.out.1⟩
  have hne0 : ((plan.length : Int) != p.ws.length) = false := by rw [bne_eq_false_iff_eq]; omega
  have HLN := Lib.hid hln
  have HZL : Hid ((plan.zip p.pj.works).length = plan.length) := Lib.hid (by rw [List.length_zip, HL.out]; omega)
  have HRZ : Hid (∀ b, (plan.zip p.pj.works).all okY = b → res = b) := Lib.hid (fun b hb => by
    rw [HRS.out]
    unfold planB
    rw [hb, HL.out, decide_eq_true HLN.out]
    simp)
  obtain ⟨n, hn⟩ : ∃ n, n = plan.length := ⟨_, rfl⟩
  clear hln
  go_enter Try.func23, Try.ntmps23
  go_wp2_with fail
  clear x2 hne0
  obtain ⟨aa, haa⟩ : ∃ aa, aa = L := ⟨_, rfl⟩
  rw [← haa]
  have HAA := Lib.hid haa
  clear haa
  go_loopw [5] (fun s5 wr => ∃ k : Nat, k ≤ plan.length ∧ s5 = .int .i64 k ∧ newer w wr ∧ Whole wr w.heap.size 27 (pmC p) ∧ early (fun q => !okY q) (plan.zip p.pj.works) k) (fun s5 _ => plan.length - (intOf s5).toNat)
  case atStart => exact ⟨0, Nat.zero_le _, rfl, H0.out.1, H0.out.2, early_zero _ _⟩
  case round =>
    obtain ⟨k, hk, rfl, hbw, hbx, he⟩ := hrel
    clear H0
    have HE := Lib.hid he
    have x2 := hbx.at 2 (v := .slice p.wa p.ws.length p.wc) rfl
    clear he
    by_cases hlt : k < plan.length
    · have hkp : (k : Int) < plan.length := by omega
      have hlq := HLN.out
      have hkn : (k : Int) < p.ws.length := by omega
      obtain ⟨y, hy⟩ := get_of_lt hlt
      obtain ⟨x, hx⟩ := get_of_lt (l := p.ws) (k := k) (by omega)
      obtain ⟨b2, o2, e2, _, d0, d1, d2, d3, d4, d5⟩ := row6 (HOK.out.next hbw).ws hx
      rw [e2] at x2
      obtain ⟨b3, o3, e3, _, cy⟩ := row1 ((HR.out.below hbw).more hbw.size) hy
      have e5 := HAA.out.trans e3
      clear e3 HAA
      subst e5
      have hxd : p.pj.works[k]? = some x.d := by simp [Pm.pj, hx]
      have HZ := Lib.hid (zip_at hy hxd)
      obtain ⟨ne, hnn⟩ : ∃ ne, ne = (y != -1) := ⟨_, rfl⟩
      have hne : (y != -1) = ne := hnn.symm
      obtain ⟨inn, hin⟩ : ∃ inn, inn = inB y x.d.first x.d.last := ⟨_, rfl⟩
      have HIN : Hid (∀ V, Calls Try.prog 24 #[vi y, vi x.d.first, vi x.d.last] V fun e w' => e = .returned (.bool inn) ∧ newer V w') := Lib.hid fun V => by
        rw [hin]
        refine (in_any _ _ _ V).mono ?_
        rintro e w' ⟨h1, rfl⟩
        exact ⟨h1, Below.refl _ _⟩
      have HOY : Hid (okY (y, x.d) = !(ne && !inn)) := Lib.hid (by
        rw [hnn, hin]
        unfold okY
        by_cases h : y = -1
        · simp [h]
        · simp [h])
      have HB := Lib.hid (And.intro hbw hbx)
      clear hbw hbx hy hx hxd hnn hin d0 d3 d4 d5 hlq e2
      go_upto_region 6 with fail
      refine wp_words (by kernel_rfl) (region_told_u 24 (by kernel_rfl) (by kernel_rfl) [false, false, false, false, false, false, (!ne), (!ne), (!ne), (!ne), (!ne), (!ne), (!ne), (!ne), (!ne), (!ne), (!ne), (!ne), (!ne), (!ne), (!ne), (!ne), (!ne), (!ne)] (fun W => Below wr.heap.size wr W) newer [vIs (.slice (some ⟨b3, o3, none⟩) plan.length lp), vIs (.int .i64 k), vIs (.pointer (some ⟨b3, o3 + k, none⟩)), vIs (vi y), vIs (.bool ne), vIs (.bool ne), vIs ((bif (!ne) then undef else .slice (some ⟨b3, o3, none⟩) plan.length lp)), vIs ((bif (!ne) then undef else .int .i64 k)), vIs ((bif (!ne) then undef else .pointer (some ⟨b3, o3 + k, none⟩))), vIs ((bif (!ne) then undef else vi y)), vIs ((bif (!ne) then undef else .pointer (some ⟨w.heap.size, 2, none⟩))), vIs ((bif (!ne) then undef else .slice (some ⟨b2, o2, none⟩) p.ws.length p.wc)), vIs ((bif (!ne) then undef else .int .i64 k)), vIs ((bif (!ne) then undef else .pointer (some ⟨b2, o2 + k * 6, none⟩))), vIs ((bif (!ne) then undef else .pointer (some ⟨b2, o2 + k * 6 + 1, none⟩))), vIs ((bif (!ne) then undef else vi x.d.first)), vIs ((bif (!ne) then undef else .pointer (some ⟨w.heap.size, 2, none⟩))), vIs ((bif (!ne) then undef else .slice (some ⟨b2, o2, none⟩) p.ws.length p.wc)), vIs ((bif (!ne) then undef else .int .i64 k)), vIs ((bif (!ne) then undef else .pointer (some ⟨b2, o2 + k * 6, none⟩))), vIs ((bif (!ne) then undef else .pointer (some ⟨b2, o2 + k * 6 + 2, none⟩))), vIs ((bif (!ne) then undef else vi x.d.last)), vIs ((bif (!ne) then undef else .bool inn)), vIs ((bif (!ne) then undef else .bool (!inn)))] ⟨rfl, rfl, rfl, rfl, rfl, rfl, (fun v W h => by obtain rfl : v = _ := h; exact gdT ne), (fun v W h => by obtain rfl : v = _ := h; exact gdT ne), (fun v W h => by obtain rfl : v = _ := h; exact gdT ne), (fun v W h => by obtain rfl : v = _ := h; exact gdT ne), (fun v W h => by obtain rfl : v = _ := h; exact gdT ne), (fun v W h => by obtain rfl : v = _ := h; exact gdT ne), (fun v W h => by obtain rfl : v = _ := h; exact gdT ne), (fun v W h => by obtain rfl : v = _ := h; exact gdT ne), (fun v W h => by obtain rfl : v = _ := h; exact gdT ne), (fun v W h => by obtain rfl : v = _ := h; exact gdT ne), (fun v W h => by obtain rfl : v = _ := h; exact gdT ne), (fun v W h => by obtain rfl : v = _ := h; exact gdT ne), (fun v W h => by obtain rfl : v = _ := h; exact gdT ne), (fun v W h => by obtain rfl : v = _ := h; exact gdT ne), (fun v W h => by obtain rfl : v = _ := h; exact gdT ne), (fun v W h => by obtain rfl : v = _ := h; exact gdT ne), (fun v W h => by obtain rfl : v = _ := h; exact gdT ne), (fun v W h => by obtain rfl : v = _ := h; exact gdT ne), trivial⟩ ⟨(fun h => Bool.noConfusion (show false = true from h)), (fun h => Bool.noConfusion (show false = true from h)), (fun h => Bool.noConfusion (show false = true from h)), (fun h => Bool.noConfusion (show false = true from h)), (fun h => Bool.noConfusion (show false = true from h)), (fun h => Bool.noConfusion (show false = true from h)), (fun h W => skw h W), (fun h W => skw h W), (fun h W => skw h W), (fun h W => skw h W), (fun h W => skw h W), (fun h W => skw h W), (fun h W => skw h W), (fun h W => skw h W), (fun h W => skw h W), (fun h W => skw h W), (fun h W => skw h W), (fun h W => skw h W), (fun h W => skw h W), (fun h W => skw h W), (fun h W => skw h W), (fun h W => skw h W), (fun h W => skw h W), (fun h W => skw h W), trivial⟩ (fun h k => newer_trans h k) (pickD_stable _ ⟨vIs_st, vIs_st, vIs_st, vIs_st, vIs_st, vIs_st, vIs_st, vIs_st, vIs_st, vIs_st, vIs_st, vIs_st, vIs_st, vIs_st, vIs_st, vIs_st, vIs_st, vIs_st, vIs_st, vIs_st, vIs_st, vIs_st, vIs_st, vIs_st, trivial⟩) (Below.refl _ wr).drew (Below.refl _ _) ?_ ?_)
      · refine ⟨?_, ?_, ?_, ?_, ?_, ?_, ?_, ?_, ?_, ?_, ?_, ?_, ?_, ?_, ?_, ?_, ?_, ?_, ?_, ?_, ?_, ?_, ?_, ?_, trivial⟩
        · refine .inr ?_
          intro a W hG hR hO hp
          have h1 := hO.slot 1 (by kernel_rfl)
          refine wp_yields (v := .slice (some ⟨b3, o3, none⟩) plan.length lp) ?_ ⟨_, rfl, rfl, Below.refl _ _, hG⟩
          simp [slotOf] at h1
          simp [execOp, go_sem, h1]
        · refine .inr ?_
          intro a W hG hR hO hp
          have h5 := hO.slot 5 (by kernel_rfl)
          refine wp_yields (v := .int .i64 k) ?_ ⟨_, rfl, rfl, Below.refl _ _, hG⟩
          simp [slotOf] at h5
          simp [execOp, go_sem, h5]
        · refine .inr ?_
          intro a W hG hR hO hp
          have h18 : slotOf a 18 = .slice (some ⟨b3, o3, none⟩) plan.length lp := hp.1
          have h19 : slotOf a 19 = .int .i64 k := hp.2.1
          refine wp_yields (v := .pointer (some ⟨b3, o3 + k, none⟩)) ?_ ⟨_, rfl, rfl, Below.refl _ _, hG⟩
          simp [slotOf] at h18 h19
          simp [execOp, go_sem, h18, h19, hkp]
        · refine .inr ?_
          intro a W hG hR hO hp
          have h20 : slotOf a 20 = .pointer (some ⟨b3, o3 + k, none⟩) := hp.1
          have c0 := keep_cell cy hG
          refine wp_yields (v := vi y) ?_ ⟨_, rfl, rfl, Below.refl _ _, hG⟩
          simp [slotOf] at h20
          simp [execOp, go_sem, h20, c0]
        · refine .inr ?_
          intro a W hG hR hO hp
          have h21 : slotOf a 21 = vi y := hp.1
          refine wp_yields (v := .bool ne) ?_ ⟨_, rfl, rfl, Below.refl _ _, hG⟩
          simp [slotOf] at h21
          simp [execOp, go_sem, h21, hne]
        · refine .inr ?_
          intro a W hG hR hO hp
          have h22 : slotOf a 22 = .bool ne := hp.1
          refine wp_yields (v := .bool ne) ?_ ⟨_, rfl, rfl, Below.refl _ _, hG⟩
          simp [slotOf] at h22
          simp [execOp, go_sem, h22]
        · rcases Bool.eq_false_or_eq_true ((!ne)) with hs | hs
          · exact .inl hs
          refine .inr ?_
          intro a W hG hR hO hp
          have h1 := hO.slot 1 (by kernel_rfl)
          refine wp_yields (v := .slice (some ⟨b3, o3, none⟩) plan.length lp) ?_ ⟨_, rfl, (by rw [hs]; rfl), Below.refl _ _, hG⟩
          simp [slotOf] at h1
          simp [execOp, go_sem, h1]
        · rcases Bool.eq_false_or_eq_true ((!ne)) with hs | hs
          · exact .inl hs
          refine .inr ?_
          intro a W hG hR hO hp
          have h5 := hO.slot 5 (by kernel_rfl)
          refine wp_yields (v := .int .i64 k) ?_ ⟨_, rfl, (by rw [hs]; rfl), Below.refl _ _, hG⟩
          simp [slotOf] at h5
          simp [execOp, go_sem, h5]
        · rcases Bool.eq_false_or_eq_true ((!ne)) with hs | hs
          · exact .inl hs
          refine .inr ?_
          intro a W hG hR hO hp
          have h24 : slotOf a 24 = (bif (!ne) then undef else .slice (some ⟨b3, o3, none⟩) plan.length lp) := hp.1
          rw [hs, cond_false] at h24
          have h25 : slotOf a 25 = (bif (!ne) then undef else .int .i64 k) := hp.2.1
          rw [hs, cond_false] at h25
          refine wp_yields (v := .pointer (some ⟨b3, o3 + k, none⟩)) ?_ ⟨_, rfl, (by rw [hs]; rfl), Below.refl _ _, hG⟩
          simp [slotOf] at h24 h25
          simp [execOp, go_sem, h24, h25, hkp]
        · rcases Bool.eq_false_or_eq_true ((!ne)) with hs | hs
          · exact .inl hs
          refine .inr ?_
          intro a W hG hR hO hp
          have h26 : slotOf a 26 = (bif (!ne) then undef else .pointer (some ⟨b3, o3 + k, none⟩)) := hp.1
          rw [hs, cond_false] at h26
          have c0 := keep_cell cy hG
          refine wp_yields (v := vi y) ?_ ⟨_, rfl, (by rw [hs]; rfl), Below.refl _ _, hG⟩
          simp [slotOf] at h26
          simp [execOp, go_sem, h26, c0]
        · rcases Bool.eq_false_or_eq_true ((!ne)) with hs | hs
          · exact .inl hs
          refine .inr ?_
          intro a W hG hR hO hp
          have h2 := hO.slot 2 (by kernel_rfl)
          refine wp_yields (v := .pointer (some ⟨w.heap.size, 2, none⟩)) ?_ ⟨_, rfl, (by rw [hs]; rfl), Below.refl _ _, hG⟩
          simp [slotOf] at h2
          simp [execOp, go_sem, h2]
        · rcases Bool.eq_false_or_eq_true ((!ne)) with hs | hs
          · exact .inl hs
          refine .inr ?_
          intro a W hG hR hO hp
          have h28 : slotOf a 28 = (bif (!ne) then undef else .pointer (some ⟨w.heap.size, 2, none⟩)) := hp.1
          rw [hs, cond_false] at h28
          have c0 := keep_cell x2 hG
          refine wp_yields (v := .slice (some ⟨b2, o2, none⟩) p.ws.length p.wc) ?_ ⟨_, rfl, (by rw [hs]; rfl), Below.refl _ _, hG⟩
          simp [slotOf] at h28
          simp [execOp, go_sem, h28, c0]
        · rcases Bool.eq_false_or_eq_true ((!ne)) with hs | hs
          · exact .inl hs
          refine .inr ?_
          intro a W hG hR hO hp
          have h5 := hO.slot 5 (by kernel_rfl)
          refine wp_yields (v := .int .i64 k) ?_ ⟨_, rfl, (by rw [hs]; rfl), Below.refl _ _, hG⟩
          simp [slotOf] at h5
          simp [execOp, go_sem, h5]
        · rcases Bool.eq_false_or_eq_true ((!ne)) with hs | hs
          · exact .inl hs
          refine .inr ?_
          intro a W hG hR hO hp
          have h29 : slotOf a 29 = (bif (!ne) then undef else .slice (some ⟨b2, o2, none⟩) p.ws.length p.wc) := hp.1
          rw [hs, cond_false] at h29
          have h30 : slotOf a 30 = (bif (!ne) then undef else .int .i64 k) := hp.2.1
          rw [hs, cond_false] at h30
          refine wp_yields (v := .pointer (some ⟨b2, o2 + k * 6, none⟩)) ?_ ⟨_, rfl, (by rw [hs]; rfl), Below.refl _ _, hG⟩
          simp [slotOf] at h29 h30
          simp [execOp, go_sem, h29, h30, hkn]
        · rcases Bool.eq_false_or_eq_true ((!ne)) with hs | hs
          · exact .inl hs
          refine .inr ?_
          intro a W hG hR hO hp
          have h31 : slotOf a 31 = (bif (!ne) then undef else .pointer (some ⟨b2, o2 + k * 6, none⟩)) := hp.1
          rw [hs, cond_false] at h31
          refine wp_yields (v := .pointer (some ⟨b2, o2 + k * 6 + 1, none⟩)) ?_ ⟨_, rfl, (by rw [hs]; rfl), Below.refl _ _, hG⟩
          simp [slotOf] at h31
          simp [execOp, go_sem, h31]
        · rcases Bool.eq_false_or_eq_true ((!ne)) with hs | hs
          · exact .inl hs
          refine .inr ?_
          intro a W hG hR hO hp
          have h32 : slotOf a 32 = (bif (!ne) then undef else .pointer (some ⟨b2, o2 + k * 6 + 1, none⟩)) := hp.1
          rw [hs, cond_false] at h32
          have c0 := keep_cell d1 hG
          refine wp_yields (v := vi x.d.first) ?_ ⟨_, rfl, (by rw [hs]; rfl), Below.refl _ _, hG⟩
          simp [slotOf] at h32
          simp [execOp, go_sem, h32, c0]
        · rcases Bool.eq_false_or_eq_true ((!ne)) with hs | hs
          · exact .inl hs
          refine .inr ?_
          intro a W hG hR hO hp
          have h2 := hO.slot 2 (by kernel_rfl)
          refine wp_yields (v := .pointer (some ⟨w.heap.size, 2, none⟩)) ?_ ⟨_, rfl, (by rw [hs]; rfl), Below.refl _ _, hG⟩
          simp [slotOf] at h2
          simp [execOp, go_sem, h2]
        · rcases Bool.eq_false_or_eq_true ((!ne)) with hs | hs
          · exact .inl hs
          refine .inr ?_
          intro a W hG hR hO hp
          have h34 : slotOf a 34 = (bif (!ne) then undef else .pointer (some ⟨w.heap.size, 2, none⟩)) := hp.1
          rw [hs, cond_false] at h34
          have c0 := keep_cell x2 hG
          refine wp_yields (v := .slice (some ⟨b2, o2, none⟩) p.ws.length p.wc) ?_ ⟨_, rfl, (by rw [hs]; rfl), Below.refl _ _, hG⟩
          simp [slotOf] at h34
          simp [execOp, go_sem, h34, c0]
        · rcases Bool.eq_false_or_eq_true ((!ne)) with hs | hs
          · exact .inl hs
          refine .inr ?_
          intro a W hG hR hO hp
          have h5 := hO.slot 5 (by kernel_rfl)
          refine wp_yields (v := .int .i64 k) ?_ ⟨_, rfl, (by rw [hs]; rfl), Below.refl _ _, hG⟩
          simp [slotOf] at h5
          simp [execOp, go_sem, h5]
        · rcases Bool.eq_false_or_eq_true ((!ne)) with hs | hs
          · exact .inl hs
          refine .inr ?_
          intro a W hG hR hO hp
          have h35 : slotOf a 35 = (bif (!ne) then undef else .slice (some ⟨b2, o2, none⟩) p.ws.length p.wc) := hp.1
          rw [hs, cond_false] at h35
          have h36 : slotOf a 36 = (bif (!ne) then undef else .int .i64 k) := hp.2.1
          rw [hs, cond_false] at h36
          refine wp_yields (v := .pointer (some ⟨b2, o2 + k * 6, none⟩)) ?_ ⟨_, rfl, (by rw [hs]; rfl), Below.refl _ _, hG⟩
          simp [slotOf] at h35 h36
          simp [execOp, go_sem, h35, h36, hkn]
        · rcases Bool.eq_false_or_eq_true ((!ne)) with hs | hs
          · exact .inl hs
          refine .inr ?_
          intro a W hG hR hO hp
          have h37 : slotOf a 37 = (bif (!ne) then undef else .pointer (some ⟨b2, o2 + k * 6, none⟩)) := hp.1
          rw [hs, cond_false] at h37
          refine wp_yields (v := .pointer (some ⟨b2, o2 + k * 6 + 2, none⟩)) ?_ ⟨_, rfl, (by rw [hs]; rfl), Below.refl _ _, hG⟩
          simp [slotOf] at h37
          simp [execOp, go_sem, h37]
        · rcases Bool.eq_false_or_eq_true ((!ne)) with hs | hs
          · exact .inl hs
          refine .inr ?_
          intro a W hG hR hO hp
          have h38 : slotOf a 38 = (bif (!ne) then undef else .pointer (some ⟨b2, o2 + k * 6 + 2, none⟩)) := hp.1
          rw [hs, cond_false] at h38
          have c0 := keep_cell d2 hG
          refine wp_yields (v := vi x.d.last) ?_ ⟨_, rfl, (by rw [hs]; rfl), Below.refl _ _, hG⟩
          simp [slotOf] at h38
          simp [execOp, go_sem, h38, c0]
        · rcases Bool.eq_false_or_eq_true ((!ne)) with hs | hs
          · exact .inl hs
          refine .inr ?_
          intro a W hG hR hO hp
          have h27 : slotOf a 27 = (bif (!ne) then undef else vi y) := hp.1
          rw [hs, cond_false] at h27
          have h33 : slotOf a 33 = (bif (!ne) then undef else vi x.d.first) := hp.2.1
          rw [hs, cond_false] at h33
          have h39 : slotOf a 39 = (bif (!ne) then undef else vi x.d.last) := hp.2.2.1
          rw [hs, cond_false] at h39
          refine wp_enters (f := 24) (args := #[vi y, vi x.d.first, vi x.d.last]) ?_ ((HIN.out W).mono ?_)
          · simp [slotOf] at h27 h33 h39
            simp [go_sem, h27, h33, h39]
          · rintro e w' ⟨rfl, hb⟩
            exact ⟨_, rfl, _, rfl, (by rw [hs]; rfl), hb, below_next hG hb⟩
        · rcases Bool.eq_false_or_eq_true ((!ne)) with hs | hs
          · exact .inl hs
          refine .inr ?_
          intro a W hG hR hO hp
          have h40 : slotOf a 40 = (bif (!ne) then undef else .bool inn) := hp.1
          rw [hs, cond_false] at h40
          refine wp_yields (v := .bool (!inn)) ?_ ⟨_, rfl, (by rw [hs]; rfl), Below.refl _ _, hG⟩
          simp [slotOf] at h40
          simp [execOp, go_sem, h40]
      · intro W hG hR
        rintro _ rfl _ rfl _ rfl _ rfl _ rfl _ rfl _ rfl _ rfl _ rfl _ rfl _ rfl _ rfl _ rfl _ rfl _ rfl _ rfl _ rfl _ rfl _ rfl _ rfl _ rfl _ rfl _ rfl _ rfl
        change wpList _ _ _ _ _ _
        simp only [Act.put, List.setIfInBounds_toArray, List.set_cons_zero, List.set_cons_succ, List.drop_succ_cons, List.drop_zero]
        have HB2 := Lib.hid (And.intro (newer_trans HB.out.1 hG) (HB.out.2.below hG HB.out.2.lt))
        clear hG hR HB x2 d1 d2 cy HIN hne
        cases ne
        · have HX := Lib.hid (early_succ HE.out HZ.out (show (!okY (y, x.d)) = false by rw [HOY.out]; simp))
          go_wp2_with fail
          go_roundw
          case rel => exact ⟨k + 1, by omega, by go_num, HB2.out.1, HB2.out.2, HX.out⟩
          case measure => simp [intOf]; omega
        · cases inn
          · have HRF := Lib.hid (HRZ.out false (all_bad HZ.out (by rw [HOY.out]; rfl)))
            go_wp2_with fail
            go_ret
            exact ⟨by rw [HRF.out] <;> rfl, HB2.out.1⟩
          · have HX := Lib.hid (early_succ HE.out HZ.out (show (!okY (y, x.d)) = false by rw [HOY.out]; simp))
            go_wp2_with fail
            go_roundw
            case rel => exact ⟨k + 1, by omega, by go_num, HB2.out.1, HB2.out.2, HX.out⟩
            case measure => simp [intOf]; omega
    · obtain rfl : k = plan.length := by omega
      have hkp : ¬ ((plan.length : Int) < plan.length) := by omega
      have HRT := Lib.hid (HRZ.out true (all_early (by rw [HZL.out]; exact HE.out)))
      have HNN := Lib.hid hbw
      clear hbw hbx
      go_wp2_with fail
      go_ret
      exact ⟨by rw [HRT.out] <;> rfl, HNN.out⟩
/-- What a work adds, by the reference. -/
def addsR (x : Wd) (built year number : Int) : Int := if built < 0 ∨ year < built then 0 else number * mxI 0 (1000 - x.age * (year - built)) / 1000
theorem addsR_is {x : Wd} {built year number : Int} (hb : -1 ≤ built) : addsR x built year number = addsN x built year number := by
  unfold addsR addsN
  by_cases h : built = -1
  · rw [if_pos (.inl (by omega)), if_pos (.inl h)]
  · by_cases h2 : year < built
    · rw [if_pos (.inr h2), if_pos (.inr h2)]
    · rw [if_neg (by omega), if_neg (by omega)]
set_option maxRecDepth 100000 in
set_option maxHeartbeats 4000000 in
theorem refAdds (x : Wk) (built year number : Int) (w : World) (ha0 : 0 ≤ x.d.age) (ha1 : x.d.age ≤ 1000) (hn0 : 0 ≤ number) (hn1 : number ≤ 10000) (hb1 : -1 ≤ built ∧ built ≤ 1000) (hy0 : 0 ≤ year) (hy1 : year ≤ 1000) :
    Calls Try.prog 58 #[wkV x, vi built, vi year, vi number] w fun e w' => e = .returned (vi (addsR x.d built year number)) ∧ newer w w' := by
  have HB := Lib.hid (newer_allocH w (.cells (wkC x) 63))
  have d3 := (Whole.made w 63 (wkC x)).at 3 (v := vi x.d.age) rfl
  unfold addsR
  by_cases h1 : built < 0
  · rw [if_pos (.inl h1)]
    go_enter Try.func58, Try.ntmps58
    go_wp2_with fail
    go_ret
    exact ⟨rfl, HB.out⟩
  · by_cases h2 : year < built
    · rw [if_pos (.inr h2)]
      go_enter Try.func58, Try.ntmps58
      go_wp2_with fail
      go_ret
      exact ⟨rfl, HB.out⟩
    · rw [if_neg (by omega)]
      obtain ⟨d, hd⟩ : ∃ d, d = year - built := ⟨_, rfl⟩
      obtain ⟨g, hg⟩ : ∃ g, g = x.d.age * d := ⟨_, rfl⟩
      obtain ⟨h, hh⟩ : ∃ h, h = 1000 - g := ⟨_, rfl⟩
      obtain ⟨m, hm⟩ : ∃ m, m = mxI 0 h := ⟨_, rfl⟩
      obtain ⟨pr, hpr⟩ : ∃ pr, pr = number * m := ⟨_, rfl⟩
      obtain ⟨q, hq⟩ : ∃ q, q = pr / 1000 := ⟨_, rfl⟩
      have bg := mulB ha0 ha1 (show 0 ≤ d by omega) (show d ≤ 1001 by omega)
      rw [← hg] at bg
      have bm : 0 ≤ m ∧ m ≤ 1000 := by
        rw [hm]
        unfold mxI
        split <;> omega
      have bp := mulB hn0 hn1 bm.1 bm.2
      rw [← hpr] at bp
      have e11 : IntKind.i64.wrap (year - built) = d := by rw [← hd]; exact IntWalk.i64_in _ (by omega)
      have e12 : IntKind.i64.wrap (x.d.age * d) = g := by rw [← hg]; exact IntWalk.i64_in _ (by omega)
      have e13 : IntKind.i64.wrap (1000 - g) = h := by rw [← hh]; exact IntWalk.i64_in _ (by omega)
      have e16 : pr.tdiv 1000 = q := by rw [hq]; exact Int.tdiv_eq_ediv_of_nonneg bp.1
      have e17 : IntKind.i64.wrap q = q := IntWalk.i64_in _ (by omega)
      rw [← hd, ← hg, ← hh, ← hm, ← hpr, ← hq]
      by_cases h3 : h < 0
      · have hm0 : m = 0 := by rw [hm]; unfold mxI; split <;> omega
        have HQ0 : Hid (q = 0) := Lib.hid (by rw [hq, hpr, hm0]; simp)
        clear hd hg hh hm hpr hq bg bm bp hm0 e16 e17
        go_enter Try.func58, Try.ntmps58
        go_wp2_with fail
        go_ret
        exact ⟨by rw [HQ0.out] <;> rfl, HB.out⟩
      · have hm0 : m = h := by rw [hm]; unfold mxI; split <;> omega
        have e15 : IntKind.i64.wrap (number * h) = pr := by rw [hpr, hm0]; exact IntWalk.i64_in _ (by rw [hm0] at hpr; omega)
        clear hd hg hh hm hpr hq bg bm bp hm0
        go_enter Try.func58, Try.ntmps58
        go_wp2_with fail
        go_ret
        exact ⟨rfl, HB.out⟩
set_option maxRecDepth 100000 in
set_option maxHeartbeats 4000000 in
theorem refTogether (hi : Bool) (p : Pm) (plan : List Int) (L : Option Addr) (lp sl : Nat) (year : Int) (w : World) (hok : PmOk p w) (hpo : PjOk p) (hl : plan.length = p.ws.length) (hr : Row intL 1 w w.heap.size L plan)
    (hsl : (sl : Int) < p.slopes) (hy0 : 0 ≤ year) (hy1 : year ≤ 1000) (hplan : ∀ y ∈ plan, -1 ≤ y ∧ y ≤ 1000) :
    Calls Try.prog 25 #[pmV p, .slice L plan.length lp, vi (sl : Int), vi year, .bool hi] w fun e w' => e = .returned (vi (togN hi sl year (p.ws.map (·.d)) plan)) ∧ newer w w' := by
  have hnw := newer_allocH w (.cells (pmC p) 27)
  have H0 := Lib.hid (And.intro hnw (Whole.made w 27 (pmC p)))
  have HOK := Lib.hid hok
  have HR := Lib.hid hr
  have HP := Lib.hid (And.intro hpo hplan)
  have HTL : Hid ((togL hi sl year (p.ws.map (·.d)) plan).length = plan.length) := Lib.hid (by
    unfold togL
    rw [List.length_map, List.length_zip, List.length_map]
    omega)
  have HTB : Hid (∀ z ∈ togL hi sl year (p.ws.map (·.d)) plan, 0 ≤ z ∧ z ≤ 10000) := Lib.hid (togL_bd (fun x hx => by
    obtain ⟨z, hz, rfl⟩ := List.mem_map.1 hx
    exact hpo.ws z hz) hsl)
  have hwn := hpo.wn
  have hsm := hpo.slopes
  have HLE := Lib.hid hl
  unfold togN
  obtain ⟨tl, htl⟩ : ∃ tl, tl = togL hi sl year (p.ws.map (·.d)) plan := ⟨_, rfl⟩
  rw [← htl] at HTL HTB ⊢
  have HT := Lib.hid htl
  clear hnw hok hr htl hpo hplan hl
  go_enter Try.func25, Try.ntmps25
  go_wp2_with fail
  obtain ⟨aa, haa⟩ : ∃ aa, aa = L := ⟨_, rfl⟩
  rw [← haa]
  have HAA := Lib.hid haa
  clear haa
  go_loopw [11, 12] (fun s11 s12 wr => ∃ k : Nat, k ≤ plan.length ∧ s12 = .int .i64 k ∧ s11 = vi (tl.take k).sum ∧ newer w wr ∧ Whole wr w.heap.size 27 (pmC p)) (fun _ s12 _ => plan.length - (intOf s12).toNat)
  case atStart => exact ⟨0, Nat.zero_le _, rfl, rfl, H0.out.1, H0.out.2⟩
  case round =>
    obtain ⟨k, hk, rfl, rfl, hbw, hbx⟩ := hrel
    clear H0
    have x2 := hbx.at 2 (v := .slice p.wa p.ws.length p.wc) rfl
    by_cases hlt : k < plan.length
    · have hkp : (k : Int) < plan.length := by omega
      have hl := HLE.out
      have hkn : (k : Int) < p.ws.length := by omega
      obtain ⟨y, hy⟩ := get_of_lt hlt
      obtain ⟨x, hx⟩ := get_of_lt (l := p.ws) (k := k) (by omega)
      have hyb := HP.out.2 y (List.mem_of_getElem? hy)
      have hw := wdB_parts (HP.out.1.ws x (List.mem_of_getElem? hx))
      obtain ⟨r, hrr⟩ := get_of_lt (l := x.d.adds) (k := sl) (by have := hw.2.2.2.2.1; omega)
      have hbr := endR_bd (hi := hi) (hw.2.2.2.2.2 r (List.mem_of_getElem? hrr))
      have hsa : (sl : Int) < x.d.adds.length := by have := hw.2.2.2.2.1; omega
      obtain ⟨b2, o2, e2, _, d0, d1, d2, d3, d4, d5⟩ := row6 (HOK.out.next hbw).ws hx
      rw [e2] at x2
      obtain ⟨b4, o4, e4, _, c0, c1⟩ := row2 ((HOK.out.next hbw).ad x (List.mem_of_getElem? hx)) hrr
      obtain ⟨b3, o3, e3, _, cy⟩ := row1 ((HR.out.below hbw).more hbw.size) hy
      have e5 := HAA.out.trans e3
      clear e3 HAA
      subst e5
      obtain ⟨num, hnum⟩ : ∃ num, num = endR hi r := ⟨_, rfl⟩
      obtain ⟨ad, had⟩ : ∃ ad, ad = addsN x.d y year num := ⟨_, rfl⟩
      have HAD : Hid (∀ V, Calls Try.prog 58 #[wkV x, vi y, vi year, vi num] V fun e w' => e = .returned (vi ad) ∧ newer V w') := Lib.hid fun V => by
        rw [had, hnum, ← addsR_is hyb.1]
        exact refAdds x y year _ V hw.2.2.1.1 hw.2.2.1.2 hbr.1 hbr.2 hyb hy0 hy1
      have htk : tl[k]? = some ad := by
        rw [HT.out]
        unfold togL
        have hxd : (p.ws.map (·.d))[k]? = some x.d := by simp [hx]
        rw [List.getElem?_map, zip_at hy hxd, Option.map_some, rAt_of hrr, had, hnum]
      obtain ⟨ac, hac⟩ : ∃ ac, ac = (tl.take k).sum := ⟨_, rfl⟩
      obtain ⟨su, hsu⟩ : ∃ su, su = ac + ad := ⟨_, rfl⟩
      have hnx : (tl.take (k + 1)).sum = su := by rw [List.take_add_one, List.sum_append, htk, hsu, hac]; simp
      have hab := HTB.out ad (List.mem_of_getElem? htk)
      have hcb := sum_bd (l := tl) (fun z hz => by have := HTB.out z hz; omega) k
      rw [← hac] at hcb ⊢
      have esu : IntKind.i64.wrap (ac + ad) = su := by rw [hsu]; exact IntWalk.i64_in _ (by omega)
      have HNX := Lib.hid hnx
      have HB := Lib.hid (And.intro hbw hbx)
      have HD5 := Lib.hid d5
      rw [e4] at d5
      clear hbw hbx hy hx hyb hw hrr hbr had htk hac hsu hnx hab hcb e2 hl
      have HE4 := Lib.hid e4
      clear e4
      cases hi
      · have hn1 : r.lo = num := hnum.symm
        clear hnum
        go_upto_region 8 with fail
        refine wp_words (by kernel_rfl) (region_told 14 (by kernel_rfl) (by kernel_rfl) (fun W => Below wr.heap.size wr W) newer (pickD [vIs (vi ac), vIs (.pointer (some ⟨w.heap.size, 2, none⟩)), vIs (.slice (some ⟨b2, o2, none⟩) p.ws.length p.wc), vIs (.int .i64 k), vIs (.pointer (some ⟨b2, o2 + k * 6, none⟩)), vIs (wkV x), vIs (.slice (some ⟨b3, o3, none⟩) plan.length lp), vIs (.int .i64 k), vIs (.pointer (some ⟨b3, o3 + k, none⟩)), vIs (vi y), vIs (vi year), vIs (vi num), vIs (vi ad), vIs (vi su)]) (fun h k => newer_trans h k) (pickD_stable _ ⟨vIs_st, vIs_st, vIs_st, vIs_st, vIs_st, vIs_st, vIs_st, vIs_st, vIs_st, vIs_st, vIs_st, vIs_st, vIs_st, vIs_st, trivial⟩) (Below.refl _ wr).drew (Below.refl _ _) ?_ ?_)
        · refine ⟨?_, ?_, ?_, ?_, ?_, ?_, ?_, ?_, ?_, ?_, ?_, ?_, ?_, ?_, trivial⟩
          · intro a W hG hR hO hp
            have h11 := hO.slot 11 (by kernel_rfl)
            refine wp_yields (v := vi ac) ?_ ⟨_, rfl, rfl, Below.refl _ _, hG⟩
            simp [slotOf] at h11
            simp [execOp, go_sem, h11]
          · intro a W hG hR hO hp
            have h5 := hO.slot 5 (by kernel_rfl)
            refine wp_yields (v := .pointer (some ⟨w.heap.size, 2, none⟩)) ?_ ⟨_, rfl, rfl, Below.refl _ _, hG⟩
            simp [slotOf] at h5
            simp [execOp, go_sem, h5]
          · intro a W hG hR hO hp
            have h42 : slotOf a 42 = .pointer (some ⟨w.heap.size, 2, none⟩) := hp.1
            have c0 := keep_cell x2 hG
            refine wp_yields (v := .slice (some ⟨b2, o2, none⟩) p.ws.length p.wc) ?_ ⟨_, rfl, rfl, Below.refl _ _, hG⟩
            simp [slotOf] at h42
            simp [execOp, go_sem, h42, c0]
          · intro a W hG hR hO hp
            have h12 := hO.slot 12 (by kernel_rfl)
            refine wp_yields (v := .int .i64 k) ?_ ⟨_, rfl, rfl, Below.refl _ _, hG⟩
            simp [slotOf] at h12
            simp [execOp, go_sem, h12]
          · intro a W hG hR hO hp
            have h43 : slotOf a 43 = .slice (some ⟨b2, o2, none⟩) p.ws.length p.wc := hp.1
            have h44 : slotOf a 44 = .int .i64 k := hp.2.1
            refine wp_yields (v := .pointer (some ⟨b2, o2 + k * 6, none⟩)) ?_ ⟨_, rfl, rfl, Below.refl _ _, hG⟩
            simp [slotOf] at h43 h44
            simp [execOp, go_sem, h43, h44, hkn]
          · intro a W hG hR hO hp
            have h45 : slotOf a 45 = .pointer (some ⟨b2, o2 + k * 6, none⟩) := hp.1
            have c0 := keep_cell d0 hG
            have c1 := keep_cell d1 hG
            have c2 := keep_cell d2 hG
            have c3 := keep_cell d3 hG
            have c4 := keep_cell d4 hG
            have c5 := keep_cell HD5.out hG
            refine wp_yields (v := wkV x) ?_ ⟨_, rfl, rfl, Below.refl _ _, hG⟩
            simp [slotOf] at h45
            simp [execOp, go_sem, h45, c0, c1, c2, c3, c4, c5]
          · intro a W hG hR hO hp
            have h1 := hO.slot 1 (by kernel_rfl)
            refine wp_yields (v := .slice (some ⟨b3, o3, none⟩) plan.length lp) ?_ ⟨_, rfl, rfl, Below.refl _ _, hG⟩
            simp [slotOf] at h1
            simp [execOp, go_sem, h1]
          · intro a W hG hR hO hp
            have h12 := hO.slot 12 (by kernel_rfl)
            refine wp_yields (v := .int .i64 k) ?_ ⟨_, rfl, rfl, Below.refl _ _, hG⟩
            simp [slotOf] at h12
            simp [execOp, go_sem, h12]
          · intro a W hG hR hO hp
            have h47 : slotOf a 47 = .slice (some ⟨b3, o3, none⟩) plan.length lp := hp.1
            have h48 : slotOf a 48 = .int .i64 k := hp.2.1
            refine wp_yields (v := .pointer (some ⟨b3, o3 + k, none⟩)) ?_ ⟨_, rfl, rfl, Below.refl _ _, hG⟩
            simp [slotOf] at h47 h48
            simp [execOp, go_sem, h47, h48, hkp]
          · intro a W hG hR hO hp
            have h49 : slotOf a 49 = .pointer (some ⟨b3, o3 + k, none⟩) := hp.1
            have c0 := keep_cell cy hG
            refine wp_yields (v := vi y) ?_ ⟨_, rfl, rfl, Below.refl _ _, hG⟩
            simp [slotOf] at h49
            simp [execOp, go_sem, h49, c0]
          · intro a W hG hR hO hp
            have h3 := hO.slot 3 (by kernel_rfl)
            refine wp_yields (v := vi year) ?_ ⟨_, rfl, rfl, Below.refl _ _, hG⟩
            simp [slotOf] at h3
            simp [execOp, go_sem, h3]
          · intro a W hG hR hO hp
            have h13 := hO.slot 13 (by kernel_rfl)
            refine wp_yields (v := vi num) ?_ ⟨_, rfl, rfl, Below.refl _ _, hG⟩
            simp [slotOf] at h13
            simp [execOp, go_sem, h13]
          · intro a W hG hR hO hp
            have h46 : slotOf a 46 = wkV x := hp.1
            have h50 : slotOf a 50 = vi y := hp.2.1
            have h51 : slotOf a 51 = vi year := hp.2.2.1
            have h52 : slotOf a 52 = vi num := hp.2.2.2.1
            refine wp_enters (f := 58) (args := #[wkV x, vi y, vi year, vi num]) ?_ ((HAD.out W).mono ?_)
            · simp [slotOf] at h46 h50 h51 h52
              simp [go_sem, h46, h50, h51, h52]
            · rintro e w' ⟨rfl, hb⟩
              exact ⟨_, rfl, _, rfl, rfl, hb, below_next hG hb⟩
          · intro a W hG hR hO hp
            have h41 : slotOf a 41 = vi ac := hp.1
            have h53 : slotOf a 53 = vi ad := hp.2.1
            refine wp_yields (v := vi su) ?_ ⟨_, rfl, rfl, Below.refl _ _, hG⟩
            simp [slotOf] at h41 h53
            simp [execOp, go_sem, h41, h53, esu]
        · intro W hG hR
          rintro _ rfl _ rfl _ rfl _ rfl _ rfl _ rfl _ rfl _ rfl _ rfl _ rfl _ rfl _ rfl _ rfl _ rfl
          change wpList _ _ _ _ _ _
          simp only [Act.put, List.setIfInBounds_toArray, List.set_cons_zero, List.set_cons_succ, List.drop_succ_cons, List.drop_zero]
          have HB2 := Lib.hid (And.intro (newer_trans HB.out.1 hG) (HB.out.2.below hG HB.out.2.lt))
          clear hG hR HB x2 d0 d1 d2 d3 d4 d5 c0 c1 cy HAD
          go_wp2_with fail
          go_roundw
          case rel => exact ⟨k + 1, by omega, by go_num, by rw [HNX.out], HB2.out.1, HB2.out.2⟩
          case measure => simp [intOf]; omega
      · have hn1 : r.hi = num := hnum.symm
        clear hnum
        go_upto_region 8 with fail
        refine wp_words (by kernel_rfl) (region_told 14 (by kernel_rfl) (by kernel_rfl) (fun W => Below wr.heap.size wr W) newer (pickD [vIs (vi ac), vIs (.pointer (some ⟨w.heap.size, 2, none⟩)), vIs (.slice (some ⟨b2, o2, none⟩) p.ws.length p.wc), vIs (.int .i64 k), vIs (.pointer (some ⟨b2, o2 + k * 6, none⟩)), vIs (wkV x), vIs (.slice (some ⟨b3, o3, none⟩) plan.length lp), vIs (.int .i64 k), vIs (.pointer (some ⟨b3, o3 + k, none⟩)), vIs (vi y), vIs (vi year), vIs (vi num), vIs (vi ad), vIs (vi su)]) (fun h k => newer_trans h k) (pickD_stable _ ⟨vIs_st, vIs_st, vIs_st, vIs_st, vIs_st, vIs_st, vIs_st, vIs_st, vIs_st, vIs_st, vIs_st, vIs_st, vIs_st, vIs_st, trivial⟩) (Below.refl _ wr).drew (Below.refl _ _) ?_ ?_)
        · refine ⟨?_, ?_, ?_, ?_, ?_, ?_, ?_, ?_, ?_, ?_, ?_, ?_, ?_, ?_, trivial⟩
          · intro a W hG hR hO hp
            have h11 := hO.slot 11 (by kernel_rfl)
            refine wp_yields (v := vi ac) ?_ ⟨_, rfl, rfl, Below.refl _ _, hG⟩
            simp [slotOf] at h11
            simp [execOp, go_sem, h11]
          · intro a W hG hR hO hp
            have h5 := hO.slot 5 (by kernel_rfl)
            refine wp_yields (v := .pointer (some ⟨w.heap.size, 2, none⟩)) ?_ ⟨_, rfl, rfl, Below.refl _ _, hG⟩
            simp [slotOf] at h5
            simp [execOp, go_sem, h5]
          · intro a W hG hR hO hp
            have h42 : slotOf a 42 = .pointer (some ⟨w.heap.size, 2, none⟩) := hp.1
            have c0 := keep_cell x2 hG
            refine wp_yields (v := .slice (some ⟨b2, o2, none⟩) p.ws.length p.wc) ?_ ⟨_, rfl, rfl, Below.refl _ _, hG⟩
            simp [slotOf] at h42
            simp [execOp, go_sem, h42, c0]
          · intro a W hG hR hO hp
            have h12 := hO.slot 12 (by kernel_rfl)
            refine wp_yields (v := .int .i64 k) ?_ ⟨_, rfl, rfl, Below.refl _ _, hG⟩
            simp [slotOf] at h12
            simp [execOp, go_sem, h12]
          · intro a W hG hR hO hp
            have h43 : slotOf a 43 = .slice (some ⟨b2, o2, none⟩) p.ws.length p.wc := hp.1
            have h44 : slotOf a 44 = .int .i64 k := hp.2.1
            refine wp_yields (v := .pointer (some ⟨b2, o2 + k * 6, none⟩)) ?_ ⟨_, rfl, rfl, Below.refl _ _, hG⟩
            simp [slotOf] at h43 h44
            simp [execOp, go_sem, h43, h44, hkn]
          · intro a W hG hR hO hp
            have h45 : slotOf a 45 = .pointer (some ⟨b2, o2 + k * 6, none⟩) := hp.1
            have c0 := keep_cell d0 hG
            have c1 := keep_cell d1 hG
            have c2 := keep_cell d2 hG
            have c3 := keep_cell d3 hG
            have c4 := keep_cell d4 hG
            have c5 := keep_cell HD5.out hG
            refine wp_yields (v := wkV x) ?_ ⟨_, rfl, rfl, Below.refl _ _, hG⟩
            simp [slotOf] at h45
            simp [execOp, go_sem, h45, c0, c1, c2, c3, c4, c5]
          · intro a W hG hR hO hp
            have h1 := hO.slot 1 (by kernel_rfl)
            refine wp_yields (v := .slice (some ⟨b3, o3, none⟩) plan.length lp) ?_ ⟨_, rfl, rfl, Below.refl _ _, hG⟩
            simp [slotOf] at h1
            simp [execOp, go_sem, h1]
          · intro a W hG hR hO hp
            have h12 := hO.slot 12 (by kernel_rfl)
            refine wp_yields (v := .int .i64 k) ?_ ⟨_, rfl, rfl, Below.refl _ _, hG⟩
            simp [slotOf] at h12
            simp [execOp, go_sem, h12]
          · intro a W hG hR hO hp
            have h47 : slotOf a 47 = .slice (some ⟨b3, o3, none⟩) plan.length lp := hp.1
            have h48 : slotOf a 48 = .int .i64 k := hp.2.1
            refine wp_yields (v := .pointer (some ⟨b3, o3 + k, none⟩)) ?_ ⟨_, rfl, rfl, Below.refl _ _, hG⟩
            simp [slotOf] at h47 h48
            simp [execOp, go_sem, h47, h48, hkp]
          · intro a W hG hR hO hp
            have h49 : slotOf a 49 = .pointer (some ⟨b3, o3 + k, none⟩) := hp.1
            have c0 := keep_cell cy hG
            refine wp_yields (v := vi y) ?_ ⟨_, rfl, rfl, Below.refl _ _, hG⟩
            simp [slotOf] at h49
            simp [execOp, go_sem, h49, c0]
          · intro a W hG hR hO hp
            have h3 := hO.slot 3 (by kernel_rfl)
            refine wp_yields (v := vi year) ?_ ⟨_, rfl, rfl, Below.refl _ _, hG⟩
            simp [slotOf] at h3
            simp [execOp, go_sem, h3]
          · intro a W hG hR hO hp
            have h13 := hO.slot 13 (by kernel_rfl)
            refine wp_yields (v := vi num) ?_ ⟨_, rfl, rfl, Below.refl _ _, hG⟩
            simp [slotOf] at h13
            simp [execOp, go_sem, h13]
          · intro a W hG hR hO hp
            have h46 : slotOf a 46 = wkV x := hp.1
            have h50 : slotOf a 50 = vi y := hp.2.1
            have h51 : slotOf a 51 = vi year := hp.2.2.1
            have h52 : slotOf a 52 = vi num := hp.2.2.2.1
            refine wp_enters (f := 58) (args := #[wkV x, vi y, vi year, vi num]) ?_ ((HAD.out W).mono ?_)
            · simp [slotOf] at h46 h50 h51 h52
              simp [go_sem, h46, h50, h51, h52]
            · rintro e w' ⟨rfl, hb⟩
              exact ⟨_, rfl, _, rfl, rfl, hb, below_next hG hb⟩
          · intro a W hG hR hO hp
            have h41 : slotOf a 41 = vi ac := hp.1
            have h53 : slotOf a 53 = vi ad := hp.2.1
            refine wp_yields (v := vi su) ?_ ⟨_, rfl, rfl, Below.refl _ _, hG⟩
            simp [slotOf] at h41 h53
            simp [execOp, go_sem, h41, h53, esu]
        · intro W hG hR
          rintro _ rfl _ rfl _ rfl _ rfl _ rfl _ rfl _ rfl _ rfl _ rfl _ rfl _ rfl _ rfl _ rfl _ rfl
          change wpList _ _ _ _ _ _
          simp only [Act.put, List.setIfInBounds_toArray, List.set_cons_zero, List.set_cons_succ, List.drop_succ_cons, List.drop_zero]
          have HB2 := Lib.hid (And.intro (newer_trans HB.out.1 hG) (HB.out.2.below hG HB.out.2.lt))
          clear hG hR HB x2 d0 d1 d2 d3 d4 d5 c0 c1 cy HAD
          go_wp2_with fail
          go_roundw
          case rel => exact ⟨k + 1, by omega, by go_num, by rw [HNX.out], HB2.out.1, HB2.out.2⟩
          case measure => simp [intOf]; omega
    · obtain rfl : k = plan.length := by omega
      have hkp : ¬ ((plan.length : Int) < plan.length) := by omega
      have HNN := Lib.hid hbw
      have HTS : Hid ((tl.take plan.length).sum = tl.sum) := Lib.hid (by rw [← HTL.out, List.take_length])
      clear hbw hbx
      go_wp2_with fail
      go_ret
      exact ⟨by rw [HTS.out] <;> rfl, HNN.out⟩
end Go.Proofs.Ytpnpnfjhjjdmgaa
