/- WorksProofs, walked: it returns true, whatever the project, the shares and the bound. -/
import Derived.Test.YtpnpnfjhjjdmgaaAG
namespace Go.Proofs.Ytpnpnfjhjjdmgaa
open Go.ChangeShapes Go.WideShapes Go.ChangeAt Go.RowKit Go.Deep

set_option maxRecDepth 100000 in
set_option maxHeartbeats 8000000 in
theorem worksProofs_walk (p : Pm) (sh : List Int) (A : Option Addr) (sc : Nat) (bound : Int) (w : World) (hok : PmOk p w) (hr : Row intL 1 w w.heap.size A sh) :
    Calls Try.prog 5 #[pmV p, .slice A sh.length sc, vi bound] w fun e w' => e = .returned (.bool true) ∧ newer w w' := by
  have hnw := newer_allocH w (.cells (pmC p) 27)
  have hbx := Whole.made w 27 (pmC p)
  have HOK := Lib.hid hok
  have HR := Lib.hid hr
  have H0 := Lib.hid (And.intro hnw hbx)
  have HTH := Lib.hid (lawThin p _ (hok.next hnw))
  have x0 := hbx.at 0 (v := vi p.years) rfl
  have x1 := hbx.at 1 (v := vi p.slopes) rfl
  have x2 := hbx.at 2 (v := .slice p.wa p.ws.length p.wc) rfl
  have x3 := hbx.at 3 (v := .slice p.na p.ns.length p.nc) rfl
  have x4 := hbx.at 4 (v := .slice p.va p.vs.length p.vc) rfl
  have x5 := hbx.at 5 (v := .slice p.pa p.ps.length p.pc) rfl
  clear hnw hbx hok hr
  cases hth : thinP p.pj with
  | false =>
    rw [hth] at HTH
    clear hth
    go_enter Try.func5, Try.ntmps5
    go_wp2_with fail
    refine (HTH.out).mono ?_
    rintro e w1 ⟨rfl, hb⟩
    have HN := Lib.hid (newer_trans H0.out.1 hb)
    clear hb
    go_wp2_with (go_at_call 17; refine (wakes_any _).mono ?_; rintro e w' ⟨rfl, hwk⟩; have HWK := Lib.hid (newer_trans HN.out hwk); clear hwk)
    go_ret
    exact ⟨rfl, HWK.out⟩
  | true =>
    rw [hth] at HTH
    have HF := Lib.hid (thin_few hth)
    have HTP := Lib.hid hth
    clear hth
    by_cases hc : 30 < sh.length
    · have hq : (30 : Int) < sh.length := by omega
      clear hc
      go_enter Try.func5, Try.ntmps5
      go_wp2_with fail
      refine (HTH.out).mono ?_
      rintro e w1 ⟨rfl, hb⟩
      have HN := Lib.hid (newer_trans H0.out.1 hb)
      clear hb
      go_wp2_with (go_at_call 17; refine (wakes_any _).mono ?_; rintro e w' ⟨rfl, hwk⟩; have HWK := Lib.hid (newer_trans HN.out hwk); clear hwk)
      go_ret
      exact ⟨rfl, HWK.out⟩
    have hq1 : ¬ ((30 : Int) < sh.length) := by omega
    have HL30 : Hid (sh.length ≤ 30) := Lib.hid (by omega)
    clear hc
    by_cases hc : bound < -1000000000000
    · have hq : bound < -1000000000000 := by omega
      clear hc
      go_enter Try.func5, Try.ntmps5
      go_wp2_with fail
      refine (HTH.out).mono ?_
      rintro e w1 ⟨rfl, hb⟩
      have HN := Lib.hid (newer_trans H0.out.1 hb)
      clear hb
      go_wp2_with (go_at_call 17; refine (wakes_any _).mono ?_; rintro e w' ⟨rfl, hwk⟩; have HWK := Lib.hid (newer_trans HN.out hwk); clear hwk)
      go_ret
      exact ⟨rfl, HWK.out⟩
    have hq2 : ¬ (bound < -1000000000000) := hc
    clear hc
    by_cases hc : 1000000000000 < bound
    · have hq : 1000000000000 < bound := by omega
      clear hc
      go_enter Try.func5, Try.ntmps5
      go_wp2_with fail
      refine (HTH.out).mono ?_
      rintro e w1 ⟨rfl, hb⟩
      have HN := Lib.hid (newer_trans H0.out.1 hb)
      clear hb
      go_wp2_with (go_at_call 17; refine (wakes_any _).mono ?_; rintro e w' ⟨rfl, hwk⟩; have HWK := Lib.hid (newer_trans HN.out hwk); clear hwk)
      go_ret
      exact ⟨rfl, HWK.out⟩
    have hq3 : ¬ (1000000000000 < bound) := hc
    clear hc
    have HBND : Hid (-1000000000000 ≤ bound ∧ bound ≤ 1000000000000) := Lib.hid (by omega)
    have HL : Hid (sh.length ≤ 1000) := Lib.hid (by have := HL30.out; omega)
    go_enter Try.func5, Try.ntmps5
    go_upto_region 3 with (go_at_call 16; refine (HTH.out).mono ?_; rintro e w1 ⟨rfl, hb⟩; have H1 := Lib.hid (And.intro (newer_trans H0.out.1 hb) (H0.out.2.below hb H0.out.2.lt)); clear hb H0 HTH x0 x1 x2 x3 x4 x5)
    clear hq1 hq2 hq3
    have x0 := H1.out.2.at 0 (v := vi p.years) rfl
    have x1 := H1.out.2.at 1 (v := vi p.slopes) rfl
    have x2 := H1.out.2.at 2 (v := .slice p.wa p.ws.length p.wc) rfl
    have x3 := H1.out.2.at 3 (v := .slice p.na p.ns.length p.nc) rfl
    have x4 := H1.out.2.at 4 (v := .slice p.va p.vs.length p.vc) rfl
    have x5 := H1.out.2.at 5 (v := .slice p.pa p.ps.length p.pc) rfl
    obtain ⟨f, hf⟩ : ∃ f, f = faultN p.pj := ⟨_, rfl⟩
    obtain ⟨pb, hpb⟩ : ∃ pb, boundB p.pj sh bound = pb := ⟨_, rfl⟩
    have HPB := Lib.hid hpb
    have HFE := Lib.hid hf
    have hRF := fun V hV => refFault p V (HOK.out.next hV) HF.out
    rw [← hf] at hRF
    have HRF := Lib.hid hRF
    clear hf hRF hpb
    by_cases hf0 : f = 0
    · subst hf0
      have HPV : Hid (∀ V, newer w V → Calls Try.prog 32 #[pmV p, .slice A sh.length sc, vi bound] V fun e w' => e = .returned (.bool pb) ∧ newer V w') := Lib.hid (fun V hV => by
        rw [← HPB.out, boundB_is, ← HFE.out, show (decide ((0 : Int) = 0) && provesB p.pj sh bound) = provesB p.pj sh bound from rfl]
        exact refProves p sh A sc bound V (HOK.out.next hV) (fault_ok HFE.out.symm) HL30.out ((HR.out.below hV).more hV.size) HBND.out)
      refine wp_words (by kernel_rfl) (region_told_g 19 (by kernel_rfl) (by kernel_rfl) (fun W => Below w1.heap.size w1 W) newer (pickD [vIs (pmV p), fun v W => ∃ p1 : Pm, v = pmV p1 ∧ p1.pj = p.pj ∧ PmOk p1 W, vIs (.slice A sh.length sc), fun v W => ∃ (A2 : Option Addr) (c2 : Nat), v = .slice A2 sh.length c2 ∧ Row intL 1 W W.heap.size A2 sh, vIs (vi bound), vIs (.bool pb), vIs (pmV p), vIs (vi 0), vIs (.bool true), vIs (.bool true), vIs (pmV p), vIs (.slice A sh.length sc), vIs (vi bound), vIs (.bool pb), vIs (.bool pb), vIs (.bool true), vIs (.bool true), vIs (.bool true), vIs (.bool true)]) ⟨trivial, trivial, trivial, trivial, trivial, trivial, trivial, trivial, trivial, trivial, (fun _ _ h => h), (fun _ _ h => h), (fun _ _ h => h), (fun _ _ h => h), trivial, trivial, trivial, (fun _ _ h => h), trivial, trivial⟩ (fun h k => newer_trans h k) (pickD_stable _ ⟨vIs_st, fun _ _ _ ⟨p1, e, hj, ho⟩ hb => ⟨p1, e, hj, ho.next hb⟩, vIs_st, fun _ _ _ ⟨A2, c2, e, hr⟩ hb => ⟨A2, c2, e, (hr.below hb).more hb.size⟩, vIs_st, vIs_st, vIs_st, vIs_st, vIs_st, vIs_st, vIs_st, vIs_st, vIs_st, vIs_st, vIs_st, vIs_st, vIs_st, vIs_st, vIs_st, trivial⟩) (Below.refl _ w1).drew (Below.refl _ _) ?_ ?_)
      · refine ⟨?_, ?_, ?_, ?_, ?_, ?_, ?_, ?_, ?_, ?_, ?_, ?_, ?_, ?_, ?_, ?_, ?_, ?_, ?_, trivial⟩
        · intro a W hG hR hO hp
          have h3 := hO.slot 3 (by kernel_rfl)
          have c0 := keep_cell x0 hG
          have c1 := keep_cell x1 hG
          have c2 := keep_cell x2 hG
          have c3 := keep_cell x3 hG
          have c4 := keep_cell x4 hG
          have c5 := keep_cell x5 hG
          refine wp_yields (v := pmV p) ?_ ⟨_, rfl, rfl, Below.refl _ _, hG⟩
          simp [slotOf] at h3
          simp [execOp, go_sem, h3, c0, c1, c2, c3, c4, c5]
        · intro a W hG hR hO hp
          have h24 : slotOf a 24 = pmV p := hp.1
          refine wp_enters (f := 19) (args := #[pmV p]) ?_ ((lawProject p W (HOK.out.next (newer_trans H1.out.1 hG)) HF.out).mono ?_)
          · simp [slotOf] at h24
            simp [go_sem, h24]
          · rintro e w' ⟨⟨p1, rfl, hj, ho, -⟩, hb⟩
            exact ⟨_, rfl, _, rfl, ⟨p1, rfl, hj, ho⟩, hb, below_next hG hb⟩
        · intro a W hG hR hO hp
          have h1 := hO.slot 1 (by kernel_rfl)
          refine wp_yields (v := .slice A sh.length sc) ?_ ⟨_, rfl, rfl, Below.refl _ _, hG⟩
          simp [slotOf] at h1
          simp [execOp, go_sem, h1]
        · intro a W hG hR hO hp
          have h26 : slotOf a 26 = .slice A sh.length sc := hp.1
          refine wp_enters (f := 21) (args := #[.slice A sh.length sc]) ?_ ((lawListO sh A sc W HL.out ((HR.out.below (newer_trans H1.out.1 hG)).more (newer_trans H1.out.1 hG).size)).mono ?_)
          · simp [slotOf] at h26
            simp [go_sem, h26]
          · rintro e w' ⟨⟨A2, c2, rfl, ho⟩, hb⟩
            exact ⟨_, rfl, _, rfl, ⟨A2, c2, rfl, row_of_own (enc := intL) (size := 1) (by omega) (fun _ => rfl) ho⟩, hb, below_next hG hb⟩
        · intro a W hG hR hO hp
          have h2 := hO.slot 2 (by kernel_rfl)
          refine wp_yields (v := vi bound) ?_ ⟨_, rfl, rfl, Below.refl _ _, hG⟩
          simp [slotOf] at h2
          simp [execOp, go_sem, h2]
        · intro a W hG hR hO hp
          have h25 := hp.1
          have h27 := hp.2.1
          have h28 : slotOf a 28 = vi bound := hp.2.2.1
          obtain ⟨p1, h25, hj1, ho1⟩ := h25
          obtain ⟨A2, c2, h27, hr2⟩ := h27
          refine wp_enters (f := 31) (args := #[pmV p1, .slice A2 sh.length c2, vi bound]) ?_ ((prove_any p1 sh A2 c2 bound W ho1 (thin_few (by rw [hj1]; exact HTP.out)) hr2 HL.out).mono ?_)
          · simp [slotOf] at h25 h27 h28
            simp [go_sem, h25, h27, h28]
          · rintro e w' ⟨rfl, hb⟩
            exact ⟨_, rfl, _, rfl, (by show Value.bool _ = Value.bool pb; rw [hj1, HPB.out]), hb, below_next hG hb⟩
        · intro a W hG hR hO hp
          have h3 := hO.slot 3 (by kernel_rfl)
          have c0 := keep_cell x0 hG
          have c1 := keep_cell x1 hG
          have c2 := keep_cell x2 hG
          have c3 := keep_cell x3 hG
          have c4 := keep_cell x4 hG
          have c5 := keep_cell x5 hG
          refine wp_yields (v := pmV p) ?_ ⟨_, rfl, rfl, Below.refl _ _, hG⟩
          simp [slotOf] at h3
          simp [execOp, go_sem, h3, c0, c1, c2, c3, c4, c5]
        · intro a W hG hR hO hp
          have h30 : slotOf a 30 = pmV p := hp.1
          refine wp_enters (f := 22) (args := #[pmV p]) ?_ ((HRF.out W (newer_trans H1.out.1 hG)).mono ?_)
          · simp [slotOf] at h30
            simp [go_sem, h30]
          · rintro e w' ⟨rfl, hb⟩
            exact ⟨_, rfl, _, rfl, rfl, hb, below_next hG hb⟩
        · intro a W hG hR hO hp
          have h31 : slotOf a 31 = vi 0 := hp.1
          refine wp_yields (v := .bool true) ?_ ⟨_, rfl, rfl, Below.refl _ _, hG⟩
          simp [slotOf] at h31
          simp [execOp, go_sem, h31]
        · intro a W hG hR hO hp
          have h32 : slotOf a 32 = .bool true := hp.1
          refine wp_yields (v := .bool true) ?_ ⟨_, rfl, rfl, Below.refl _ _, hG⟩
          simp [slotOf] at h32
          simp [execOp, go_sem, h32]
        · intro a W hG hR hO hp
          have h3 := hO.slot 3 (by kernel_rfl)
          have c0 := keep_cell x0 hG
          have c1 := keep_cell x1 hG
          have c2 := keep_cell x2 hG
          have c3 := keep_cell x3 hG
          have c4 := keep_cell x4 hG
          have c5 := keep_cell x5 hG
          refine wp_yields (v := pmV p) ?_ ⟨_, rfl, rfl, Below.refl _ _, hG⟩
          simp [slotOf] at h3
          simp [execOp, go_sem, h3, c0, c1, c2, c3, c4, c5]
        · intro a W hG hR hO hp
          have h1 := hO.slot 1 (by kernel_rfl)
          refine wp_yields (v := .slice A sh.length sc) ?_ ⟨_, rfl, rfl, Below.refl _ _, hG⟩
          simp [slotOf] at h1
          simp [execOp, go_sem, h1]
        · intro a W hG hR hO hp
          have h2 := hO.slot 2 (by kernel_rfl)
          refine wp_yields (v := vi bound) ?_ ⟨_, rfl, rfl, Below.refl _ _, hG⟩
          simp [slotOf] at h2
          simp [execOp, go_sem, h2]
        · intro a W hG hR hO hp
          have h34 : slotOf a 34 = pmV p := hp.1
          have h35 : slotOf a 35 = .slice A sh.length sc := hp.2.1
          have h36 : slotOf a 36 = vi bound := hp.2.2.1
          refine wp_enters (f := 32) (args := #[pmV p, .slice A sh.length sc, vi bound]) ?_ ((HPV.out W (newer_trans H1.out.1 hG)).mono ?_)
          · simp [slotOf] at h34 h35 h36
            simp [go_sem, h34, h35, h36]
          · rintro e w' ⟨rfl, hb⟩
            exact ⟨_, rfl, _, rfl, rfl, hb, below_next hG hb⟩
        · intro a W hG hR hO hp
          have h33 : slotOf a 33 = .bool true := hp.1
          have h37 : slotOf a 37 = .bool pb := hp.2.1
          refine wp_yields (v := .bool pb) ?_ ⟨_, rfl, rfl, Below.refl _ _, hG⟩
          simp [slotOf] at h33 h37
          simp [execOp, go_sem, h33, h37]
        · intro a W hG hR hO hp
          have h29 : slotOf a 29 = .bool pb := hp.1
          have h38 : slotOf a 38 = .bool pb := hp.2.1
          refine wp_yields (v := .bool true) ?_ ⟨_, rfl, rfl, Below.refl _ _, hG⟩
          simp [slotOf] at h29 h38
          simp [execOp, go_sem, h29, h38]
        · intro a W hG hR hO hp
          have h39 : slotOf a 39 = .bool true := hp.1
          refine wp_yields (v := .bool true) ?_ ⟨_, rfl, rfl, Below.refl _ _, hG⟩
          simp [slotOf] at h39
          simp [execOp, go_sem, h39]
        · intro a W hG hR hO hp
          refine wp_enters (f := 17) (args := #[]) ?_ ((wakes_any W).mono ?_)
          · skip
            simp [go_sem]
          · rintro e w' ⟨rfl, hb⟩
            exact ⟨_, rfl, _, rfl, rfl, hb, below_next hG hb⟩
        · intro a W hG hR hO hp
          have h40 : slotOf a 40 = .bool true := hp.1
          have h41 : slotOf a 41 = .bool true := hp.2.1
          refine wp_yields (v := .bool true) ?_ ⟨_, rfl, rfl, Below.refl _ _, hG⟩
          simp [slotOf] at h40 h41
          simp [execOp, go_sem, h40, h41]
      · intro W hG hR
        rintro _ rfl _ ⟨p1, rfl, -, -⟩ _ rfl _ ⟨A2, c2, rfl, -⟩ _ rfl _ rfl _ rfl _ rfl _ rfl _ rfl _ rfl _ rfl _ rfl _ rfl _ rfl _ rfl _ rfl _ rfl _ rfl
        change wpList _ _ _ _ _ _
        simp only [Act.put, List.setIfInBounds_toArray, List.set_cons_zero, List.set_cons_succ, List.drop_succ_cons, List.drop_zero]
        have HZ := Lib.hid (newer_trans H1.out.1 hG)
        clear hG hR
        go_wp2_with fail
        go_ret
        exact ⟨rfl, HZ.out⟩
    · have HPF : Hid (pb = false) := Lib.hid (by
        rw [← HPB.out, boundB_is, ← HFE.out, decide_eq_false hf0]
        rfl)
      refine wp_words (by kernel_rfl) (region_told_s 19 (by kernel_rfl) (by kernel_rfl) [false, false, false, false, false, false, false, false, false, false, true, true, true, true, false, false, false, false, false] (fun W => Below w1.heap.size w1 W) newer [vIs (pmV p), fun v W => ∃ p1 : Pm, v = pmV p1 ∧ p1.pj = p.pj ∧ PmOk p1 W, vIs (.slice A sh.length sc), fun v W => ∃ (A2 : Option Addr) (c2 : Nat), v = .slice A2 sh.length c2 ∧ Row intL 1 W W.heap.size A2 sh, vIs (vi bound), vIs (.bool pb), vIs (pmV p), vIs (vi f), vIs (.bool false), vIs (.bool false), fun _ _ => True, fun _ _ => True, fun _ _ => True, fun _ _ => True, vIs (.bool false), vIs (.bool true), vIs (.bool true), vIs (.bool true), vIs (.bool true)] ⟨rfl, rfl, rfl, rfl, rfl, rfl, rfl, rfl, rfl, rfl, (fun _ _ h => h), (fun _ _ h => h), (fun _ _ h => h), (fun _ _ h => h), rfl, rfl, rfl, (fun _ _ h => h), rfl, trivial⟩ ⟨(fun h => absurd h (by decide)), (fun h => absurd h (by decide)), (fun h => absurd h (by decide)), (fun h => absurd h (by decide)), (fun h => absurd h (by decide)), (fun h => absurd h (by decide)), (fun h => absurd h (by decide)), (fun h => absurd h (by decide)), (fun h => absurd h (by decide)), (fun h => absurd h (by decide)), (fun _ _ _ => trivial), (fun _ _ _ => trivial), (fun _ _ _ => trivial), (fun _ _ _ => trivial), (fun h => absurd h (by decide)), (fun h => absurd h (by decide)), (fun h => absurd h (by decide)), (fun h => absurd h (by decide)), (fun h => absurd h (by decide)), trivial⟩ (fun h k => newer_trans h k) (pickD_stable _ ⟨vIs_st, fun _ _ _ ⟨p1, e, hj, ho⟩ hb => ⟨p1, e, hj, ho.next hb⟩, vIs_st, fun _ _ _ ⟨A2, c2, e, hr⟩ hb => ⟨A2, c2, e, (hr.below hb).more hb.size⟩, vIs_st, vIs_st, vIs_st, vIs_st, vIs_st, vIs_st, fun _ _ _ h _ => h, fun _ _ _ h _ => h, fun _ _ _ h _ => h, fun _ _ _ h _ => h, vIs_st, vIs_st, vIs_st, vIs_st, vIs_st, trivial⟩) (Below.refl _ w1).drew (Below.refl _ _) ?_ ?_)
      · refine ⟨.inr ?_, .inr ?_, .inr ?_, .inr ?_, .inr ?_, .inr ?_, .inr ?_, .inr ?_, .inr ?_, .inr ?_, .inl rfl, .inl rfl, .inl rfl, .inl rfl, .inr ?_, .inr ?_, .inr ?_, .inr ?_, .inr ?_, trivial⟩
        · intro a W hG hR hO hp
          have h3 := hO.slot 3 (by kernel_rfl)
          have c0 := keep_cell x0 hG
          have c1 := keep_cell x1 hG
          have c2 := keep_cell x2 hG
          have c3 := keep_cell x3 hG
          have c4 := keep_cell x4 hG
          have c5 := keep_cell x5 hG
          refine wp_yields (v := pmV p) ?_ ⟨_, rfl, rfl, Below.refl _ _, hG⟩
          simp [slotOf] at h3
          simp [execOp, go_sem, h3, c0, c1, c2, c3, c4, c5]
        · intro a W hG hR hO hp
          have h24 : slotOf a 24 = pmV p := hp.1
          refine wp_enters (f := 19) (args := #[pmV p]) ?_ ((lawProject p W (HOK.out.next (newer_trans H1.out.1 hG)) HF.out).mono ?_)
          · simp [slotOf] at h24
            simp [go_sem, h24]
          · rintro e w' ⟨⟨p1, rfl, hj, ho, -⟩, hb⟩
            exact ⟨_, rfl, _, rfl, ⟨p1, rfl, hj, ho⟩, hb, below_next hG hb⟩
        · intro a W hG hR hO hp
          have h1 := hO.slot 1 (by kernel_rfl)
          refine wp_yields (v := .slice A sh.length sc) ?_ ⟨_, rfl, rfl, Below.refl _ _, hG⟩
          simp [slotOf] at h1
          simp [execOp, go_sem, h1]
        · intro a W hG hR hO hp
          have h26 : slotOf a 26 = .slice A sh.length sc := hp.1
          refine wp_enters (f := 21) (args := #[.slice A sh.length sc]) ?_ ((lawListO sh A sc W HL.out ((HR.out.below (newer_trans H1.out.1 hG)).more (newer_trans H1.out.1 hG).size)).mono ?_)
          · simp [slotOf] at h26
            simp [go_sem, h26]
          · rintro e w' ⟨⟨A2, c2, rfl, ho⟩, hb⟩
            exact ⟨_, rfl, _, rfl, ⟨A2, c2, rfl, row_of_own (enc := intL) (size := 1) (by omega) (fun _ => rfl) ho⟩, hb, below_next hG hb⟩
        · intro a W hG hR hO hp
          have h2 := hO.slot 2 (by kernel_rfl)
          refine wp_yields (v := vi bound) ?_ ⟨_, rfl, rfl, Below.refl _ _, hG⟩
          simp [slotOf] at h2
          simp [execOp, go_sem, h2]
        · intro a W hG hR hO hp
          have h25 := hp.1
          have h27 := hp.2.1
          have h28 : slotOf a 28 = vi bound := hp.2.2.1
          obtain ⟨p1, h25, hj1, ho1⟩ := h25
          obtain ⟨A2, c2, h27, hr2⟩ := h27
          refine wp_enters (f := 31) (args := #[pmV p1, .slice A2 sh.length c2, vi bound]) ?_ ((prove_any p1 sh A2 c2 bound W ho1 (thin_few (by rw [hj1]; exact HTP.out)) hr2 HL.out).mono ?_)
          · simp [slotOf] at h25 h27 h28
            simp [go_sem, h25, h27, h28]
          · rintro e w' ⟨rfl, hb⟩
            exact ⟨_, rfl, _, rfl, (by show Value.bool _ = Value.bool pb; rw [hj1, HPB.out]), hb, below_next hG hb⟩
        · intro a W hG hR hO hp
          have h3 := hO.slot 3 (by kernel_rfl)
          have c0 := keep_cell x0 hG
          have c1 := keep_cell x1 hG
          have c2 := keep_cell x2 hG
          have c3 := keep_cell x3 hG
          have c4 := keep_cell x4 hG
          have c5 := keep_cell x5 hG
          refine wp_yields (v := pmV p) ?_ ⟨_, rfl, rfl, Below.refl _ _, hG⟩
          simp [slotOf] at h3
          simp [execOp, go_sem, h3, c0, c1, c2, c3, c4, c5]
        · intro a W hG hR hO hp
          have h30 : slotOf a 30 = pmV p := hp.1
          refine wp_enters (f := 22) (args := #[pmV p]) ?_ ((HRF.out W (newer_trans H1.out.1 hG)).mono ?_)
          · simp [slotOf] at h30
            simp [go_sem, h30]
          · rintro e w' ⟨rfl, hb⟩
            exact ⟨_, rfl, _, rfl, rfl, hb, below_next hG hb⟩
        · intro a W hG hR hO hp
          have h31 : slotOf a 31 = vi f := hp.1
          refine wp_yields (v := .bool false) ?_ ⟨_, rfl, rfl, Below.refl _ _, hG⟩
          simp [slotOf] at h31
          simp [execOp, go_sem, h31, hf0]
        · intro a W hG hR hO hp
          have h32 : slotOf a 32 = .bool false := hp.1
          refine wp_yields (v := .bool false) ?_ ⟨_, rfl, rfl, Below.refl _ _, hG⟩
          simp [slotOf] at h32
          simp [execOp, go_sem, h32]
        · intro a W hG hR hO hp
          have h33 : slotOf a 33 = .bool false := hp.1
          have h37 := hp.2.1
          refine wp_yields (v := .bool false) ?_ ⟨_, rfl, rfl, Below.refl _ _, hG⟩
          simp [slotOf] at h33
          simp [execOp, go_sem, h33]
        · intro a W hG hR hO hp
          have h29 : slotOf a 29 = .bool pb := hp.1
          have h38 : slotOf a 38 = .bool false := hp.2.1
          refine wp_yields (v := .bool true) ?_ ⟨_, rfl, rfl, Below.refl _ _, hG⟩
          simp [slotOf] at h29 h38
          simp [execOp, go_sem, h29, h38, HPF.out]
        · intro a W hG hR hO hp
          have h39 : slotOf a 39 = .bool true := hp.1
          refine wp_yields (v := .bool true) ?_ ⟨_, rfl, rfl, Below.refl _ _, hG⟩
          simp [slotOf] at h39
          simp [execOp, go_sem, h39]
        · intro a W hG hR hO hp
          refine wp_enters (f := 17) (args := #[]) ?_ ((wakes_any W).mono ?_)
          · skip
            simp [go_sem]
          · rintro e w' ⟨rfl, hb⟩
            exact ⟨_, rfl, _, rfl, rfl, hb, below_next hG hb⟩
        · intro a W hG hR hO hp
          have h40 : slotOf a 40 = .bool true := hp.1
          have h41 : slotOf a 41 = .bool true := hp.2.1
          refine wp_yields (v := .bool true) ?_ ⟨_, rfl, rfl, Below.refl _ _, hG⟩
          simp [slotOf] at h40 h41
          simp [execOp, go_sem, h40, h41]
      · intro W hG hR
        rintro _ rfl _ ⟨p1, rfl, -, -⟩ _ rfl _ ⟨A2, c2, rfl, -⟩ _ rfl _ rfl _ rfl _ rfl _ rfl _ rfl _ - _ - _ - _ - _ rfl _ rfl _ rfl _ rfl _ rfl
        change wpList _ _ _ _ _ _
        simp only [Act.put, List.setIfInBounds_toArray, List.set_cons_zero, List.set_cons_succ, List.drop_succ_cons, List.drop_zero]
        have HZ := Lib.hid (newer_trans H1.out.1 hG)
        clear hG hR
        go_wp2_with fail
        go_ret
        exact ⟨rfl, HZ.out⟩
end Go.Proofs.Ytpnpnfjhjjdmgaa
