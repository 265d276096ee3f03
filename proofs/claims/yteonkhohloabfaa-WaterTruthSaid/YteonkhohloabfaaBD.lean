/- The law WaterTruth returns true for every ground, all days and all words, and leaves what it was given as it was. -/
import Derived.Test.YteonkhohloabfaaBC
namespace Go.Proofs.Yteonkhohloabfaa
open Go.ChangeShapes Go.WideShapes Go.ChangeAt Go.RowKit Go.Deep

set_option maxRecDepth 100000 in
set_option maxHeartbeats 4000000 in
theorem waterTruth_walk (g : Gnd) (A : Option Addr) (cp : Nat) (days : List Day) (D : Option Addr) (dp : Nat) (ws : List Word) (V : Option Addr) (vp : Nat) (w : World) (hlws : ws.length ≤ maxLen)
    (hc : Row cellL 7 w w.heap.size A g.cells) (hd : Row dayL 3 w w.heap.size D days) (hv : Row wordL 1 w w.heap.size V ws) :
    Calls Try.prog 8 #[gndV A cp g, .slice D days.length dp, .slice V ws.length vp] w fun e w' => e = .returned (.bool true) ∧ Below w.heap.size w w' := by
  have HVws := Lib.hid hv
  have HL0 := Lib.hid (Lw.made (cp := cp) hc hd)
  clear hc hd hv
  have HRD := Lib.hid (ready_any g cp A days dp D (w.alloc (.cells (gndC A cp g) 26)) HL0.out.hc HL0.out.hd)
  by_cases hrd : readyB g days = true
  · obtain ⟨hs1, hs2, hfz⟩ := ready_zero hrd
    have hn8 := (fault_cells hfz).2
    have hm30 := (fault_zero hfz).2.1
    have HFZ := Lib.hid hfz
    rw [hrd] at HRD
    clear hrd hfz
    go_enter Try.func8, Try.ntmps8
    go_wp2_with fail
    refine (HRD.out).mono ?_
    rintro e w1 ⟨rfl, hb1⟩
    have H1 := Lib.hid (HL0.out.next hb1)
    clear hb1 HRD HL0
    have g0 := (H1.out.gb).at 0 (v := .slice A g.cells.length cp) rfl
    have g1 := (H1.out.gb).at 1 (v := vi g.slo) rfl
    have g2 := (H1.out.gb).at 2 (v := vi g.shi) rfl
    have g3 := (H1.out.gb).at 3 (v := vi g.klo) rfl
    have g4 := (H1.out.gb).at 4 (v := vi g.khi) rfl
    have g5 := (H1.out.gb).at 5 (v := vi g.melt) rfl
    go_wp2_with fail
    refine (lawGround g A cp w1 (by omega) H1.out.hc).mono ?_
    rintro e w2 ⟨A2, c2, rfl, hr2, hb2⟩
    have H2 := Lib.hid (H1.out.next hb2)
    have HR2 := Lib.hid hr2
    clear hr2 hb2 H1 g0 g1 g2 g3 g4 g5
    go_wp2_with fail
    refine (lawDays days D dp w2 (by omega) H2.out.hd).mono ?_
    rintro e w3 ⟨A3, c3, rfl, hr3, hb3⟩
    have H3 := Lib.hid (H2.out.next hb3)
    have HLV := Lib.hid (levels_yes g A2 c2 days A3 c3 w3 (by omega) (by omega) ((HR2.out.below hb3).more hb3.size) hr3 HFZ.out)
    clear hr3 hb3 H2 HR2
    go_wp2_with fail
    refine (HLV.out).mono ?_
    rintro e wv ⟨⟨B1, d1, B2, d2, base, gb, rfl, hlt⟩, hb4⟩
    have HL := Lib.hid (H3.out.next hb4)
    have HT := Lib.hid hlt
    clear hlt hb4 H3 HLV
    have g0 := (HL.out.gb).at 0 (v := .slice A g.cells.length cp) rfl
    have g1 := (HL.out.gb).at 1 (v := vi g.slo) rfl
    have g2 := (HL.out.gb).at 2 (v := vi g.shi) rfl
    have g3 := (HL.out.gb).at 3 (v := vi g.klo) rfl
    have g4 := (HL.out.gb).at 4 (v := vi g.khi) rfl
    have g5 := (HL.out.gb).at 5 (v := vi g.melt) rfl
    go_wp2_with fail
    refine wp_words (by kernel_rfl) (region_told 18 (by kernel_rfl) (by kernel_rfl) (fun W => Below wv.heap.size wv W) newer (pickD [vIs (gndV A cp g), vGn g, vIs (.slice D days.length dp), vDy days, vIs (gndV A cp g), vIs (.slice D days.length dp), vIs (.slice V ws.length vp), vTrF g days, vTrF g days, vRunF g days, vRunF g days, vLvF g days, vLf days.length, vSnF g days, vIs (vi 0), vLvF g days, vLf days.length, vSnF g days]) (fun h k => newer_trans h k) (pickD_stable _ ⟨vIs_st, vGn_st, vIs_st, vDy_st, vIs_st, vIs_st, vIs_st, vTrF_st, vTrF_st, vRunF_st, vRunF_st, vLvF_st, vLf_st, vSnF_st, vIs_st, vLvF_st, vLf_st, vSnF_st, trivial⟩) (Below.refl _ wv).drew (Below.refl _ _) ?_ ?_)
    · refine ⟨?_, ?_, ?_, ?_, ?_, ?_, ?_, ?_, ?_, ?_, ?_, ?_, ?_, ?_, ?_, ?_, ?_, ?_, trivial⟩
      · intro a W hG hR hO hp
        have h3 := hO.slot 3 (by kernel_rfl)
        have c0 := keep_cell g0 hG
        have c1 := keep_cell g1 hG
        have c2 := keep_cell g2 hG
        have c3 := keep_cell g3 hG
        have c4 := keep_cell g4 hG
        have c5 := keep_cell g5 hG
        refine wp_yields (v := gndV A cp g) ?_ ⟨_, rfl, rfl, Below.refl _ _, hG⟩
        simp [slotOf] at h3
        simp [execOp, go_sem, h3, c0, c1, c2, c3, c4, c5]
      · intro a W hG hR hO hp
        have h40 : slotOf a 40 = gndV A cp g := hp.1
        refine wp_enters (f := 19) (args := #[gndV A cp g]) ?_ ((lawGround g A cp W (by omega) (HL.out.next hG).hc).mono ?_)
        · simp [slotOf] at h40
          simp [go_sem, h40]
        · rintro e w' ⟨Ax, cx, rfl, h2, hb⟩
          exact ⟨_, rfl, _, rfl, ⟨Ax, cx, rfl, h2⟩, hb, below_next hG hb⟩
      · intro a W hG hR hO hp
        have h1 := hO.slot 1 (by kernel_rfl)
        refine wp_yields (v := .slice D days.length dp) ?_ ⟨_, rfl, rfl, Below.refl _ _, hG⟩
        simp [slotOf] at h1
        simp [execOp, go_sem, h1]
      · intro a W hG hR hO hp
        have h42 : slotOf a 42 = .slice D days.length dp := hp.1
        refine wp_enters (f := 20) (args := #[.slice D days.length dp]) ?_ ((lawDays days D dp W (by omega) (HL.out.next hG).hd).mono ?_)
        · simp [slotOf] at h42
          simp [go_sem, h42]
        · rintro e w' ⟨Ax, cx, rfl, h2, hb⟩
          exact ⟨_, rfl, _, rfl, ⟨Ax, cx, rfl, h2⟩, hb, below_next hG hb⟩
      · intro a W hG hR hO hp
        have h3 := hO.slot 3 (by kernel_rfl)
        have c0 := keep_cell g0 hG
        have c1 := keep_cell g1 hG
        have c2 := keep_cell g2 hG
        have c3 := keep_cell g3 hG
        have c4 := keep_cell g4 hG
        have c5 := keep_cell g5 hG
        refine wp_yields (v := gndV A cp g) ?_ ⟨_, rfl, rfl, Below.refl _ _, hG⟩
        simp [slotOf] at h3
        simp [execOp, go_sem, h3, c0, c1, c2, c3, c4, c5]
      · intro a W hG hR hO hp
        have h1 := hO.slot 1 (by kernel_rfl)
        refine wp_yields (v := .slice D days.length dp) ?_ ⟨_, rfl, rfl, Below.refl _ _, hG⟩
        simp [slotOf] at h1
        simp [execOp, go_sem, h1]
      · intro a W hG hR hO hp
        have h2 := hO.slot 2 (by kernel_rfl)
        refine wp_yields (v := .slice V ws.length vp) ?_ ⟨_, rfl, rfl, Below.refl _ _, hG⟩
        simp [slotOf] at h2
        simp [execOp, go_sem, h2]
      · intro a W hG hR hO hp
        have h44 : slotOf a 44 = gndV A cp g := hp.1
        have h45 : slotOf a 45 = .slice D days.length dp := hp.2.1
        have h46 : slotOf a 46 = .slice V ws.length vp := hp.2.2.1
        refine wp_enters (f := 37) (args := #[gndV A cp g, .slice D days.length dp, .slice V ws.length vp]) ?_ ((picked_any g A cp days D dp ws V vp W HFZ.out hlws (HL.out.next hG).hc (HL.out.next hG).hd ((HVws.out.below (HL.out.next hG).below).more (HL.out.next hG).below.size)).mono ?_)
        · simp [slotOf] at h44 h45 h46
          simp [go_sem, h44, h45, h46]
        · rintro e w' ⟨⟨sn, so, lv, rn, v, rfl, hv, hfit⟩, hb⟩
          exact ⟨_, rfl, _, rfl, ⟨sn, so, lv, rn, hv, hfit⟩, hb, below_next hG hb⟩
      · intro a W hG hR hO hp
        have h47 := hp.1
        obtain ⟨sn, so, lv, rn, ⟨L, lp, R, rp, h47, h1, h2⟩, hfit⟩ := h47
        have hlen := fits_len hfit
        refine wp_enters (f := 33) (args := #[truthV sn so L lv.length lp R rn.length rp]) ?_ ((lawTruth sn so lv rn L lp R rp W (by omega) (by omega) h1 h2).mono ?_)
        · simp [slotOf] at h47
          simp [go_sem, h47]
        · rintro e w' ⟨⟨vx, rfl, hv⟩, hb⟩
          exact ⟨_, rfl, _, rfl, ⟨sn, so, lv, rn, hv, hfit⟩, hb, below_next hG hb⟩
      · intro a W hG hR hO hp
        have h41 := hp.1
        have h43 := hp.2.1
        have h48 := hp.2.2.1
        obtain ⟨Ag, cg, h41, hrg⟩ := h41
        obtain ⟨Ad, cd, h43, hrd⟩ := h43
        obtain ⟨sn, so, lv, rn, ⟨L, lp, R, rp, h48, h1, h2⟩, hfit⟩ := h48
        have hlen := fits_len hfit
        refine wp_enters (f := 32) (args := #[gndV Ag cg g, .slice Ad days.length cd, truthV sn so L lv.length lp R rn.length rp]) ?_ ((run_yes g Ag cg days Ad cd sn so lv L lp rn R rp W (by omega) (by omega) (by omega) (by omega) hrg hrd h1 h2 (runN_ok HFZ.out hfit)).mono ?_)
        · simp [slotOf] at h41 h43 h48
          simp [go_sem, h41, h43, h48]
        · rintro e w' ⟨⟨vx, rfl, hv⟩, hb⟩
          exact ⟨_, rfl, _, rfl, vRunF_of HFZ.out hfit hv, hb, below_next hG hb⟩
      · intro a W hG hR hO hp
        have h49 := hp.1
        obtain ⟨v1, v2, v3, h49, hv1, hv2, hv3⟩ := h49
        refine wp_yields (v := .tuple #[v1, v2, v3, vi 0]) ?_ ⟨_, rfl, ⟨v1, v2, v3, rfl, hv1, hv2, hv3⟩, Below.refl _ _, hG⟩
        simp [slotOf] at h49
        simp [execOp, go_sem, h49]
      · intro a W hG hR hO hp
        have h39 := hp.1
        obtain ⟨v1, v2, v3, h39, hv1, hv2, hv3⟩ := h39
        refine wp_yields (v := v1) ?_ ⟨_, rfl, hv1, Below.refl _ _, hG⟩
        simp [slotOf] at h39
        simp [execOp, go_sem, h39]
      · intro a W hG hR hO hp
        have h39 := hp.1
        obtain ⟨v1, v2, v3, h39, hv1, hv2, hv3⟩ := h39
        refine wp_yields (v := v2) ?_ ⟨_, rfl, hv2, Below.refl _ _, hG⟩
        simp [slotOf] at h39
        simp [execOp, go_sem, h39]
      · intro a W hG hR hO hp
        have h39 := hp.1
        obtain ⟨v1, v2, v3, h39, hv1, hv2, hv3⟩ := h39
        refine wp_yields (v := v3) ?_ ⟨_, rfl, hv3, Below.refl _ _, hG⟩
        simp [slotOf] at h39
        simp [execOp, go_sem, h39]
      · intro a W hG hR hO hp
        have h39 := hp.1
        obtain ⟨v1, v2, v3, h39, hv1, hv2, hv3⟩ := h39
        refine wp_yields (v := vi 0) ?_ ⟨_, rfl, rfl, Below.refl _ _, hG⟩
        simp [slotOf] at h39
        simp [execOp, go_sem, h39]
      · intro a W hG hR hO hp
        have h50 := hp.1
        obtain ⟨f, ⟨Qx, cqx, Ax, cx, bx, h50, hq1, hq2⟩, hq3⟩ := h50
        refine wp_yields (v := .slice Qx days.length cqx) ?_ ⟨_, rfl, ⟨f, ⟨Qx, cqx, Ax, cx, bx, rfl, hq1, hq2⟩, hq3⟩, Below.refl _ _, hG⟩
        simp [slotOf] at h50
        simp [execOp, go_sem, h50]
      · intro a W hG hR hO hp
        have h51 := hp.1
        obtain ⟨sl, Qx, cqx, bx, h51, hq1⟩ := h51
        refine wp_yields (v := .slice Qx days.length cqx) ?_ ⟨_, rfl, ⟨sl, Qx, cqx, bx, rfl, hq1⟩, Below.refl _ _, hG⟩
        simp [slotOf] at h51
        simp [execOp, go_sem, h51]
      · intro a W hG hR hO hp
        have h52 := hp.1
        obtain ⟨s, h52, hs⟩ := h52
        refine wp_yields (v := vi s) ?_ ⟨_, rfl, ⟨s, rfl, hs⟩, Below.refl _ _, hG⟩
        simp [slotOf] at h52
        simp [execOp, go_sem, h52]
    · intro W hG hR
      rintro _ rfl _ ⟨_, _, rfl, -⟩ _ rfl _ ⟨_, _, rfl, -⟩ _ rfl _ rfl _ rfl _ ⟨_, _, _, _, ⟨_, _, _, _, rfl, -, -⟩, -⟩ _ ⟨_, _, _, _, ⟨_, _, _, _, rfl, -, -⟩, -⟩ _ ⟨_, _, _, rfl, -, -, -⟩ _ ⟨_, _, _, rfl, -, -, -⟩ _ ⟨_, ⟨_, _, _, _, _, rfl, -, -⟩, -⟩ _ ⟨_, _, _, _, rfl, -⟩ _ ⟨_, rfl, -⟩ _ rfl _ ⟨fl, ⟨Q1, cq1, Af1, cf1, bs1, rfl, hT1, hR1⟩, hB1⟩ _ ⟨_, _, _, _, rfl, -⟩ _ ⟨lies, rfl, hs1, hs2⟩
      change wpList _ _ _ _ _ _
      simp only [Act.put, List.setIfInBounds_toArray, List.set_cons_zero, List.set_cons_succ, List.drop_succ_cons, List.drop_zero]
      have HL' := Lib.hid (HL.out.next hG)
      have HT' := Lib.hid (HT.out.next hG)
      have HX1 := Lib.hid (show vT1 g.cells.length days.length fl (.slice Q1 days.length cq1) _ from ⟨Q1, cq1, Af1, cf1, bs1, rfl, hT1, hR1⟩)
      have HB1 := Lib.hid hB1
      have HS1 := Lib.hid (And.intro hs1 hs2)
      clear hG hR hT1 hR1 hB1 hs1 hs2 HL HT g0 g1 g2 g3 g4 g5
      obtain ⟨wv, hwv⟩ : ∃ wv, wv = W := ⟨_, rfl⟩
      rw [← hwv] at HL' HT' HX1 ⊢
      clear hwv W
      have HL := HL'
      clear HL'
      have g0 := (HL.out.gb).at 0 (v := .slice A g.cells.length cp) rfl
      have g1 := (HL.out.gb).at 1 (v := vi g.slo) rfl
      have g2 := (HL.out.gb).at 2 (v := vi g.shi) rfl
      have g3 := (HL.out.gb).at 3 (v := vi g.klo) rfl
      have g4 := (HL.out.gb).at 4 (v := vi g.khi) rfl
      have g5 := (HL.out.gb).at 5 (v := vi g.melt) rfl
      go_wp2_with fail
      refine wp_words (by kernel_rfl) (region_told 17 (by kernel_rfl) (by kernel_rfl) (fun W => Below wv.heap.size wv W) newer (pickD [vIs (gndV A cp g), vGn g, vIs (.slice D days.length dp), vDy days, vIs (gndV A cp g), vIs (.slice D days.length dp), vTruth 0 false g days, vTruth 0 false g days, vRunE false g days, vRunE false g days, vT1 g.cells.length days.length (fun j i => (stE false g days (j + 1)).f i), vLf days.length, vIs (vi (stE false g days days.length).snow), vIs (vi 0), vT1 g.cells.length days.length (fun j i => (stE false g days (j + 1)).f i), vLf days.length, vIs (vi (stE false g days days.length).snow)]) (fun h k => newer_trans h k) (pickD_stable _ ⟨vIs_st, vGn_st, vIs_st, vDy_st, vIs_st, vIs_st, vTruth_st, vTruth_st, vRunE_st, vRunE_st, vT1_st, vLf_st, vIs_st, vIs_st, vT1_st, vLf_st, vIs_st, trivial⟩) (Below.refl _ wv).drew (Below.refl _ _) ?_ ?_)
      · refine ⟨?_, ?_, ?_, ?_, ?_, ?_, ?_, ?_, ?_, ?_, ?_, ?_, ?_, ?_, ?_, ?_, ?_, trivial⟩
        · intro a W hG hR hO hp
          have h3 := hO.slot 3 (by kernel_rfl)
          have c0 := keep_cell g0 hG
          have c1 := keep_cell g1 hG
          have c2 := keep_cell g2 hG
          have c3 := keep_cell g3 hG
          have c4 := keep_cell g4 hG
          have c5 := keep_cell g5 hG
          refine wp_yields (v := gndV A cp g) ?_ ⟨_, rfl, rfl, Below.refl _ _, hG⟩
          simp [slotOf] at h3
          simp [execOp, go_sem, h3, c0, c1, c2, c3, c4, c5]
        · intro a W hG hR hO hp
          have h55 : slotOf a 55 = gndV A cp g := hp.1
          refine wp_enters (f := 19) (args := #[gndV A cp g]) ?_ ((lawGround g A cp W (by omega) (HL.out.next hG).hc).mono ?_)
          · simp [slotOf] at h55
            simp [go_sem, h55]
          · rintro e w' ⟨Ax, cx, rfl, h2, hb⟩
            exact ⟨_, rfl, _, rfl, ⟨Ax, cx, rfl, h2⟩, hb, below_next hG hb⟩
        · intro a W hG hR hO hp
          have h1 := hO.slot 1 (by kernel_rfl)
          refine wp_yields (v := .slice D days.length dp) ?_ ⟨_, rfl, rfl, Below.refl _ _, hG⟩
          simp [slotOf] at h1
          simp [execOp, go_sem, h1]
        · intro a W hG hR hO hp
          have h57 : slotOf a 57 = .slice D days.length dp := hp.1
          refine wp_enters (f := 20) (args := #[.slice D days.length dp]) ?_ ((lawDays days D dp W (by omega) (HL.out.next hG).hd).mono ?_)
          · simp [slotOf] at h57
            simp [go_sem, h57]
          · rintro e w' ⟨Ax, cx, rfl, h2, hb⟩
            exact ⟨_, rfl, _, rfl, ⟨Ax, cx, rfl, h2⟩, hb, below_next hG hb⟩
        · intro a W hG hR hO hp
          have h3 := hO.slot 3 (by kernel_rfl)
          have c0 := keep_cell g0 hG
          have c1 := keep_cell g1 hG
          have c2 := keep_cell g2 hG
          have c3 := keep_cell g3 hG
          have c4 := keep_cell g4 hG
          have c5 := keep_cell g5 hG
          refine wp_yields (v := gndV A cp g) ?_ ⟨_, rfl, rfl, Below.refl _ _, hG⟩
          simp [slotOf] at h3
          simp [execOp, go_sem, h3, c0, c1, c2, c3, c4, c5]
        · intro a W hG hR hO hp
          have h1 := hO.slot 1 (by kernel_rfl)
          refine wp_yields (v := .slice D days.length dp) ?_ ⟨_, rfl, rfl, Below.refl _ _, hG⟩
          simp [slotOf] at h1
          simp [execOp, go_sem, h1]
        · intro a W hG hR hO hp
          have h59 : slotOf a 59 = gndV A cp g := hp.1
          have h60 : slotOf a 60 = .slice D days.length dp := hp.2.1
          refine wp_enters (f := 23) (args := #[gndV A cp g, .slice D days.length dp, .bool false]) ?_ ((refEnds false g A cp days D dp W (by omega) (by omega) (HL.out.next hG).hc (HL.out.next hG).hd).mono ?_)
          · simp [slotOf] at h59 h60
            simp [go_sem, h59, h60]
          · rintro e w' ⟨L, lp, R, rp, rfl, h2, h3, hb, h4, h5⟩
            exact ⟨_, rfl, _, rfl, ⟨L, lp, R, rp, rfl, h2, h3, fun _ _ => Nat.zero_le _, fun _ _ => Nat.zero_le _⟩, hb, below_next hG hb⟩
        · intro a W hG hR hO hp
          have h61 := hp.1
          obtain ⟨L, lp, R, rp, h61, h1, h2, -, -⟩ := h61
          refine wp_enters (f := 33) (args := #[truthV (endOf false g.slo g.shi) (endOf false g.klo g.khi) L g.cells.length lp R days.length rp]) ?_ ((lawTruthE false g days L lp R rp W (by omega) (by omega) h1 h2).mono ?_)
          · simp [slotOf] at h61
            simp [go_sem, h61]
          · rintro e w' ⟨⟨vx, rfl, hv⟩, hb⟩
            exact ⟨_, rfl, _, rfl, hv, hb, below_next hG hb⟩
        · intro a W hG hR hO hp
          have h56 := hp.1
          have h58 := hp.2.1
          have h62 := hp.2.2.1
          obtain ⟨Ag, cg, h56, hrg⟩ := h56
          obtain ⟨Ad, cd, h58, hrd⟩ := h58
          obtain ⟨L, lp, R, rp, h62, h1, h2, -, -⟩ := h62
          refine wp_enters (f := 32) (args := #[gndV Ag cg g, .slice Ad days.length cd, truthV (endOf false g.slo g.shi) (endOf false g.klo g.khi) L g.cells.length lp R days.length rp]) ?_ ((run_ends false g Ag cg days Ad cd L lp R rp W (by omega) (by omega) HFZ.out hrg hrd h1 h2).mono ?_)
          · simp [slotOf] at h56 h58 h62
            simp [go_sem, h56, h58, h62]
          · rintro e w' ⟨⟨vx, rfl, hv⟩, hb⟩
            exact ⟨_, rfl, _, rfl, hv, hb, below_next hG hb⟩
        · intro a W hG hR hO hp
          have h63 := hp.1
          obtain ⟨v1, v2, h63, hv1, hv2⟩ := h63
          refine wp_yields (v := .tuple #[v1, v2, vi (stE false g days days.length).snow, vi 0]) ?_ ⟨_, rfl, ⟨v1, v2, rfl, hv1, hv2⟩, Below.refl _ _, hG⟩
          simp [slotOf] at h63
          simp [execOp, go_sem, h63]
        · intro a W hG hR hO hp
          have h54 := hp.1
          obtain ⟨v1, v2, h54, hv1, hv2⟩ := h54
          refine wp_yields (v := v1) ?_ ⟨_, rfl, hv1, Below.refl _ _, hG⟩
          simp [slotOf] at h54
          simp [execOp, go_sem, h54]
        · intro a W hG hR hO hp
          have h54 := hp.1
          obtain ⟨v1, v2, h54, hv1, hv2⟩ := h54
          refine wp_yields (v := v2) ?_ ⟨_, rfl, hv2, Below.refl _ _, hG⟩
          simp [slotOf] at h54
          simp [execOp, go_sem, h54]
        · intro a W hG hR hO hp
          have h54 := hp.1
          obtain ⟨v1, v2, h54, hv1, hv2⟩ := h54
          refine wp_yields (v := vi (stE false g days days.length).snow) ?_ ⟨_, rfl, rfl, Below.refl _ _, hG⟩
          simp [slotOf] at h54
          simp [execOp, go_sem, h54]
        · intro a W hG hR hO hp
          have h54 := hp.1
          obtain ⟨v1, v2, h54, hv1, hv2⟩ := h54
          refine wp_yields (v := vi 0) ?_ ⟨_, rfl, rfl, Below.refl _ _, hG⟩
          simp [slotOf] at h54
          simp [execOp, go_sem, h54]
        · intro a W hG hR hO hp
          have h64 := hp.1
          obtain ⟨Qx, cqx, Ax, cx, bx, h64, hq1, hq2⟩ := h64
          refine wp_yields (v := .slice Qx days.length cqx) ?_ ⟨_, rfl, ⟨Qx, cqx, Ax, cx, bx, rfl, hq1, hq2⟩, Below.refl _ _, hG⟩
          simp [slotOf] at h64
          simp [execOp, go_sem, h64]
        · intro a W hG hR hO hp
          have h65 := hp.1
          obtain ⟨sl, Qx, cqx, bx, h65, hq1⟩ := h65
          refine wp_yields (v := .slice Qx days.length cqx) ?_ ⟨_, rfl, ⟨sl, Qx, cqx, bx, rfl, hq1⟩, Below.refl _ _, hG⟩
          simp [slotOf] at h65
          simp [execOp, go_sem, h65]
        · intro a W hG hR hO hp
          have h66 : slotOf a 66 = vi (stE false g days days.length).snow := hp.1
          refine wp_yields (v := vi (stE false g days days.length).snow) ?_ ⟨_, rfl, rfl, Below.refl _ _, hG⟩
          simp [slotOf] at h66
          simp [execOp, go_sem, h66]
      · intro W hG hR
        rintro _ rfl _ ⟨_, _, rfl, -⟩ _ rfl _ ⟨_, _, rfl, -⟩ _ rfl _ rfl _ ⟨_, _, _, _, rfl, -, -, -, -⟩ _ ⟨_, _, _, _, rfl, -, -, -, -⟩ _ ⟨_, _, rfl, -, -⟩ _ ⟨_, _, rfl, -, -⟩ _ ⟨_, _, _, _, _, rfl, -, -⟩ _ ⟨_, _, _, _, rfl, -⟩ _ rfl _ rfl _ ⟨Q2, cq2, Af2, cf2, bs2, rfl, hT2, hR2⟩ _ ⟨_, _, _, _, rfl, -⟩ _ rfl
        change wpList _ _ _ _ _ _
        simp only [Act.put, List.setIfInBounds_toArray, List.set_cons_zero, List.set_cons_succ, List.drop_succ_cons, List.drop_zero]
        have HL' := Lib.hid (HL.out.next hG)
        have HT2 := Lib.hid (HT'.out.next hG)
        have HX2 := Lib.hid (vT1_st _ _ _ HX1.out hG)
        have HA1 := Lib.hid (show vT1 g.cells.length days.length (fun j i => (stE false g days (j + 1)).f i) (.slice Q2 days.length cq2) _ from ⟨Q2, cq2, Af2, cf2, bs2, rfl, hT2, hR2⟩)
        clear hG hR hT2 hR2 HL HT' HX1 g0 g1 g2 g3 g4 g5
        obtain ⟨wv, hwv⟩ : ∃ wv, wv = W := ⟨_, rfl⟩
        rw [← hwv] at HL' HT2 HX2 HA1 ⊢
        clear hwv W
        have HL := HL'
        clear HL'
        have g0 := (HL.out.gb).at 0 (v := .slice A g.cells.length cp) rfl
        have g1 := (HL.out.gb).at 1 (v := vi g.slo) rfl
        have g2 := (HL.out.gb).at 2 (v := vi g.shi) rfl
        have g3 := (HL.out.gb).at 3 (v := vi g.klo) rfl
        have g4 := (HL.out.gb).at 4 (v := vi g.khi) rfl
        have g5 := (HL.out.gb).at 5 (v := vi g.melt) rfl
        go_wp2_with fail
        refine wp_words (by kernel_rfl) (region_told 17 (by kernel_rfl) (by kernel_rfl) (fun W => Below wv.heap.size wv W) newer (pickD [vIs (gndV A cp g), vGn g, vIs (.slice D days.length dp), vDy days, vIs (gndV A cp g), vIs (.slice D days.length dp), vTruth 0 true g days, vTruth 0 true g days, vRunE true g days, vRunE true g days, vT1 g.cells.length days.length (fun j i => (stE true g days (j + 1)).f i), vLf days.length, vIs (vi (stE true g days days.length).snow), vIs (vi 0), vT1 g.cells.length days.length (fun j i => (stE true g days (j + 1)).f i), vLf days.length, vIs (vi (stE true g days days.length).snow)]) (fun h k => newer_trans h k) (pickD_stable _ ⟨vIs_st, vGn_st, vIs_st, vDy_st, vIs_st, vIs_st, vTruth_st, vTruth_st, vRunE_st, vRunE_st, vT1_st, vLf_st, vIs_st, vIs_st, vT1_st, vLf_st, vIs_st, trivial⟩) (Below.refl _ wv).drew (Below.refl _ _) ?_ ?_)
        · refine ⟨?_, ?_, ?_, ?_, ?_, ?_, ?_, ?_, ?_, ?_, ?_, ?_, ?_, ?_, ?_, ?_, ?_, trivial⟩
          · intro a W hG hR hO hp
            have h3 := hO.slot 3 (by kernel_rfl)
            have c0 := keep_cell g0 hG
            have c1 := keep_cell g1 hG
            have c2 := keep_cell g2 hG
            have c3 := keep_cell g3 hG
            have c4 := keep_cell g4 hG
            have c5 := keep_cell g5 hG
            refine wp_yields (v := gndV A cp g) ?_ ⟨_, rfl, rfl, Below.refl _ _, hG⟩
            simp [slotOf] at h3
            simp [execOp, go_sem, h3, c0, c1, c2, c3, c4, c5]
          · intro a W hG hR hO hp
            have h69 : slotOf a 69 = gndV A cp g := hp.1
            refine wp_enters (f := 19) (args := #[gndV A cp g]) ?_ ((lawGround g A cp W (by omega) (HL.out.next hG).hc).mono ?_)
            · simp [slotOf] at h69
              simp [go_sem, h69]
            · rintro e w' ⟨Ax, cx, rfl, h2, hb⟩
              exact ⟨_, rfl, _, rfl, ⟨Ax, cx, rfl, h2⟩, hb, below_next hG hb⟩
          · intro a W hG hR hO hp
            have h1 := hO.slot 1 (by kernel_rfl)
            refine wp_yields (v := .slice D days.length dp) ?_ ⟨_, rfl, rfl, Below.refl _ _, hG⟩
            simp [slotOf] at h1
            simp [execOp, go_sem, h1]
          · intro a W hG hR hO hp
            have h71 : slotOf a 71 = .slice D days.length dp := hp.1
            refine wp_enters (f := 20) (args := #[.slice D days.length dp]) ?_ ((lawDays days D dp W (by omega) (HL.out.next hG).hd).mono ?_)
            · simp [slotOf] at h71
              simp [go_sem, h71]
            · rintro e w' ⟨Ax, cx, rfl, h2, hb⟩
              exact ⟨_, rfl, _, rfl, ⟨Ax, cx, rfl, h2⟩, hb, below_next hG hb⟩
          · intro a W hG hR hO hp
            have h3 := hO.slot 3 (by kernel_rfl)
            have c0 := keep_cell g0 hG
            have c1 := keep_cell g1 hG
            have c2 := keep_cell g2 hG
            have c3 := keep_cell g3 hG
            have c4 := keep_cell g4 hG
            have c5 := keep_cell g5 hG
            refine wp_yields (v := gndV A cp g) ?_ ⟨_, rfl, rfl, Below.refl _ _, hG⟩
            simp [slotOf] at h3
            simp [execOp, go_sem, h3, c0, c1, c2, c3, c4, c5]
          · intro a W hG hR hO hp
            have h1 := hO.slot 1 (by kernel_rfl)
            refine wp_yields (v := .slice D days.length dp) ?_ ⟨_, rfl, rfl, Below.refl _ _, hG⟩
            simp [slotOf] at h1
            simp [execOp, go_sem, h1]
          · intro a W hG hR hO hp
            have h73 : slotOf a 73 = gndV A cp g := hp.1
            have h74 : slotOf a 74 = .slice D days.length dp := hp.2.1
            refine wp_enters (f := 23) (args := #[gndV A cp g, .slice D days.length dp, .bool true]) ?_ ((refEnds true g A cp days D dp W (by omega) (by omega) (HL.out.next hG).hc (HL.out.next hG).hd).mono ?_)
            · simp [slotOf] at h73 h74
              simp [go_sem, h73, h74]
            · rintro e w' ⟨L, lp, R, rp, rfl, h2, h3, hb, h4, h5⟩
              exact ⟨_, rfl, _, rfl, ⟨L, lp, R, rp, rfl, h2, h3, fun _ _ => Nat.zero_le _, fun _ _ => Nat.zero_le _⟩, hb, below_next hG hb⟩
          · intro a W hG hR hO hp
            have h75 := hp.1
            obtain ⟨L, lp, R, rp, h75, h1, h2, -, -⟩ := h75
            refine wp_enters (f := 33) (args := #[truthV (endOf true g.slo g.shi) (endOf true g.klo g.khi) L g.cells.length lp R days.length rp]) ?_ ((lawTruthE true g days L lp R rp W (by omega) (by omega) h1 h2).mono ?_)
            · simp [slotOf] at h75
              simp [go_sem, h75]
            · rintro e w' ⟨⟨vx, rfl, hv⟩, hb⟩
              exact ⟨_, rfl, _, rfl, hv, hb, below_next hG hb⟩
          · intro a W hG hR hO hp
            have h70 := hp.1
            have h72 := hp.2.1
            have h76 := hp.2.2.1
            obtain ⟨Ag, cg, h70, hrg⟩ := h70
            obtain ⟨Ad, cd, h72, hrd⟩ := h72
            obtain ⟨L, lp, R, rp, h76, h1, h2, -, -⟩ := h76
            refine wp_enters (f := 32) (args := #[gndV Ag cg g, .slice Ad days.length cd, truthV (endOf true g.slo g.shi) (endOf true g.klo g.khi) L g.cells.length lp R days.length rp]) ?_ ((run_ends true g Ag cg days Ad cd L lp R rp W (by omega) (by omega) HFZ.out hrg hrd h1 h2).mono ?_)
            · simp [slotOf] at h70 h72 h76
              simp [go_sem, h70, h72, h76]
            · rintro e w' ⟨⟨vx, rfl, hv⟩, hb⟩
              exact ⟨_, rfl, _, rfl, hv, hb, below_next hG hb⟩
          · intro a W hG hR hO hp
            have h77 := hp.1
            obtain ⟨v1, v2, h77, hv1, hv2⟩ := h77
            refine wp_yields (v := .tuple #[v1, v2, vi (stE true g days days.length).snow, vi 0]) ?_ ⟨_, rfl, ⟨v1, v2, rfl, hv1, hv2⟩, Below.refl _ _, hG⟩
            simp [slotOf] at h77
            simp [execOp, go_sem, h77]
          · intro a W hG hR hO hp
            have h68 := hp.1
            obtain ⟨v1, v2, h68, hv1, hv2⟩ := h68
            refine wp_yields (v := v1) ?_ ⟨_, rfl, hv1, Below.refl _ _, hG⟩
            simp [slotOf] at h68
            simp [execOp, go_sem, h68]
          · intro a W hG hR hO hp
            have h68 := hp.1
            obtain ⟨v1, v2, h68, hv1, hv2⟩ := h68
            refine wp_yields (v := v2) ?_ ⟨_, rfl, hv2, Below.refl _ _, hG⟩
            simp [slotOf] at h68
            simp [execOp, go_sem, h68]
          · intro a W hG hR hO hp
            have h68 := hp.1
            obtain ⟨v1, v2, h68, hv1, hv2⟩ := h68
            refine wp_yields (v := vi (stE true g days days.length).snow) ?_ ⟨_, rfl, rfl, Below.refl _ _, hG⟩
            simp [slotOf] at h68
            simp [execOp, go_sem, h68]
          · intro a W hG hR hO hp
            have h68 := hp.1
            obtain ⟨v1, v2, h68, hv1, hv2⟩ := h68
            refine wp_yields (v := vi 0) ?_ ⟨_, rfl, rfl, Below.refl _ _, hG⟩
            simp [slotOf] at h68
            simp [execOp, go_sem, h68]
          · intro a W hG hR hO hp
            have h78 := hp.1
            obtain ⟨Qx, cqx, Ax, cx, bx, h78, hq1, hq2⟩ := h78
            refine wp_yields (v := .slice Qx days.length cqx) ?_ ⟨_, rfl, ⟨Qx, cqx, Ax, cx, bx, rfl, hq1, hq2⟩, Below.refl _ _, hG⟩
            simp [slotOf] at h78
            simp [execOp, go_sem, h78]
          · intro a W hG hR hO hp
            have h79 := hp.1
            obtain ⟨sl, Qx, cqx, bx, h79, hq1⟩ := h79
            refine wp_yields (v := .slice Qx days.length cqx) ?_ ⟨_, rfl, ⟨sl, Qx, cqx, bx, rfl, hq1⟩, Below.refl _ _, hG⟩
            simp [slotOf] at h79
            simp [execOp, go_sem, h79]
          · intro a W hG hR hO hp
            have h80 : slotOf a 80 = vi (stE true g days days.length).snow := hp.1
            refine wp_yields (v := vi (stE true g days days.length).snow) ?_ ⟨_, rfl, rfl, Below.refl _ _, hG⟩
            simp [slotOf] at h80
            simp [execOp, go_sem, h80]
        · intro W hG hR
          rintro _ rfl _ ⟨_, _, rfl, -⟩ _ rfl _ ⟨_, _, rfl, -⟩ _ rfl _ rfl _ ⟨_, _, _, _, rfl, -, -, -, -⟩ _ ⟨_, _, _, _, rfl, -, -, -, -⟩ _ ⟨_, _, rfl, -, -⟩ _ ⟨_, _, rfl, -, -⟩ _ ⟨_, _, _, _, _, rfl, -, -⟩ _ ⟨_, _, _, _, rfl, -⟩ _ rfl _ rfl _ ⟨Q3, cq3, Af3, cf3, bs3, rfl, hT3, hR3⟩ _ ⟨_, _, _, _, rfl, -⟩ _ rfl
          change wpList _ _ _ _ _ _
          simp only [Act.put, List.setIfInBounds_toArray, List.set_cons_zero, List.set_cons_succ, List.drop_succ_cons, List.drop_zero]
          have HL' := Lib.hid (HL.out.next hG)
          have HT3 := Lib.hid (HT2.out.next hG)
          have HX3 := Lib.hid (vT1_st _ _ _ HX2.out hG)
          have HA2 := Lib.hid (vT1_st _ _ _ HA1.out hG)
          have HC2 := Lib.hid (show vT1 g.cells.length days.length (fun j i => (stE true g days (j + 1)).f i) (.slice Q3 days.length cq3) _ from ⟨Q3, cq3, Af3, cf3, bs3, rfl, hT3, hR3⟩)
          clear hG hR hT3 hR3 HL HT2 HX2 HA1 g0 g1 g2 g3 g4 g5
          obtain ⟨wv, hwv⟩ : ∃ wv, wv = W := ⟨_, rfl⟩
          rw [← hwv] at HL' HT3 HX3 HA2 HC2 ⊢
          clear hwv W
          go_wp2_with fail
          refine (rows_any wv (by omega) HX3.out HA2.out).mono ?_
          rintro e w5 ⟨rfl, hb5⟩
          have HL5 := Lib.hid (HL'.out.next hb5)
          have HT5 := Lib.hid (HT3.out.next hb5)
          have HX5 := Lib.hid (vT1_st _ _ _ HX3.out hb5)
          have HA5 := Lib.hid (vT1_st _ _ _ HA2.out hb5)
          have HC5 := Lib.hid (vT1_st _ _ _ HC2.out hb5)
          clear hb5 HL' HT3 HX3 HA2 HC2
          go_wp2_with fail
          refine (rows_any w5 (by omega) HX5.out HC5.out).mono ?_
          rintro e w6 ⟨rfl, hb6⟩
          have HL6 := Lib.hid (HL5.out.next hb6)
          have HT6 := Lib.hid (HT5.out.next hb6)
          have HX6 := Lib.hid (vT1_st _ _ _ HX5.out hb6)
          have HA6 := Lib.hid (vT1_st _ _ _ HA5.out hb6)
          have HC6 := Lib.hid (vT1_st _ _ _ HC5.out hb6)
          clear hb6 HL5 HT5 HX5 HA5 HC5
          obtain ⟨sa, hsa⟩ : ∃ sa, sa = (stE false g days days.length).snow := ⟨_, rfl⟩
          obtain ⟨sb, hsb⟩ : ∃ sb, sb = (stE true g days days.length).snow := ⟨_, rfl⟩
          rw [← hsa, ← hsb]
          have HSA := Lib.hid hsa
          have HSB := Lib.hid hsb
          clear hsa hsb
          go_wp2_with fail
          go_loopw [22] (fun s22 wr => ∃ k : Nat, k ≤ days.length ∧ s22 = .int .i64 k ∧ newer w6 wr) (fun s22 _ => days.length - (intOf s22).toNat)
          case atStart => exact ⟨0, Nat.zero_le _, rfl, Below.refl _ _⟩
          case round =>
            obtain ⟨k, hk, rfl, hnw⟩ := hrel
            have HLr := Lib.hid (HL6.out.next hnw)
            have HTr := Lib.hid (HT6.out.next hnw)
            have HNW := Lib.hid hnw
            by_cases hlt : k < days.length
            · have hkm : (k : Int) < days.length := by omega
              obtain ⟨q1, Ay1, cy1, e1, y1, hry1⟩ := vT1_at (vT1_st _ _ _ HX6.out hnw) hlt
              obtain ⟨q2, Ay2, cy2, e2, y2, hry2⟩ := vT1_at (vT1_st _ _ _ HA6.out hnw) hlt
              obtain ⟨q3, Ay3, cy3, e3, y3, hry3⟩ := vT1_at (vT1_st _ _ _ HC6.out hnw) hlt
              obtain ⟨q4, e4, y4⟩ := HTr.out.at1 hlt
              have HR1 := Lib.hid hry1
              have HR2 := Lib.hid hry2
              have HR3 := Lib.hid hry3
              subst e1
              subst e2
              subst e3
              subst e4
              have g0 := HLr.out.gb.at 0 (v := .slice A g.cells.length cp) rfl
              clear hnw hry1 hry2 hry3
              go_wp2_with fail
              go_quiet (fail)
              go_wp2_with fail
              have hnq := newer_drewN wr nq
              obtain ⟨wq, hwq⟩ : ∃ wq, wq = wr.drewN nq := ⟨_, rfl⟩
              rw [← hwq] at hnq ⊢
              have HQ := Lib.hid hnq
              have HY := Lib.hid (And.intro y1 (And.intro y2 (And.intro y3 y4)))
              clear hwq y1 y2 y3 y4 g0 hnq
              go_wp2_with fail
              go_loopw [23] (fun s23 w6 => ∃ i : Nat, i ≤ g.cells.length ∧ s23 = .int .i64 i ∧ newer wq w6) (fun s23 _ => g.cells.length - (intOf s23).toNat)
              case atStart => exact ⟨0, Nat.zero_le _, rfl, Below.refl _ _⟩
              case round =>
                obtain ⟨i, hi, rfl, hn6'⟩ := hrel
                have hn6 := newer_trans HQ.out hn6'
                have HN7 := Lib.hid hn6'
                have HNI := Lib.hid (newer_trans HNW.out hn6)
                have HLi := Lib.hid (HLr.out.next hn6)
                have g0 := HLi.out.gb.at 0 (v := .slice A g.cells.length cp) rfl
                clear hn6'
                by_cases hli : i < g.cells.length
                · have hki : (i : Int) < g.cells.length := by omega
                  obtain ⟨p1, o1, e1, _, z1⟩ := cells_of_row ((HR1.out.below hn6).more hn6.size) hli
                  obtain ⟨p2, o2, e2, _, z2⟩ := cells_of_row ((HR2.out.below hn6).more hn6.size) hli
                  obtain ⟨p3, o3, e3, _, z3⟩ := cells_of_row ((HR3.out.below hn6).more hn6.size) hli
                  obtain ⟨z4, z5⟩ := (HTr.out.next hn6).cells hlt hli
                  have y1 := keep_cell HY.out.1 hn6
                  have y2 := keep_cell HY.out.2.1 hn6
                  have y3 := keep_cell HY.out.2.2.1 hn6
                  have y4 := keep_cell HY.out.2.2.2 hn6
                  obtain ⟨hb1, hb2⟩ := HB1.out k i hlt hli
                  obtain ⟨xa, hxa⟩ : ∃ xa, xa = (stE false g days (k + 1)).f i := ⟨_, rfl⟩
                  obtain ⟨xb, hxb⟩ : ∃ xb, xb = (stE true g days (k + 1)).f i := ⟨_, rfl⟩
                  obtain ⟨xl, hxl⟩ : ∃ xl, xl = fl k i := ⟨_, rfl⟩
                  rw [← hxl] at z1
                  rw [← hxa] at z2 z4
                  rw [← hxb] at z3 z5
                  rw [← hxa, ← hxl] at hb1
                  rw [← hxb, ← hxl] at hb2
                  subst e1
                  subst e2
                  subst e3
                  have hf1 : ¬ (xl < xa) := by omega
                  have hf2 : ¬ (xb < xl) := by omega
                  clear hxa hxb hxl hb1 hb2 hn6
                  go_wp2_with fail
                  go_quiet (fail)
                  go_wp2_with fail
                  exact ⟨⟨i + 1, by omega, by go_num, newer_trans HN7.out (newer_drewN _ _)⟩, by (simp only [intOf]; omega)⟩
                · obtain rfl : i = g.cells.length := by omega
                  clear hn6
                  go_wp2_with fail
                  exact ⟨⟨k + 1, by omega, by go_num, HNI.out⟩, by (simp only [intOf]; omega)⟩
            · obtain rfl : k = days.length := by omega
              clear hnw
              have hs1 := HS1.out.1
              have hs2 := HS1.out.2
              rw [← HSA.out] at hs1
              rw [← HSB.out] at hs2
              by_cases hm : days.length = 0
              · have hm0 : ¬ ((0 : Int) < days.length) := by omega
                clear hm
                go_wp2_with fail
                refine (wakes_any _).mono ?_
                rintro e w8 ⟨rfl, hb8⟩
                have HF := Lib.hid (HLr.out.next hb8).below
                clear hb8
                go_wp2_with fail
                go_ret
                exact ⟨rfl, HF.out⟩
              · obtain ⟨m, hm'⟩ : ∃ m, days.length = m + 1 := ⟨days.length - 1, by omega⟩
                have hm0 : (0 : Int) < days.length := by omega
                have hm1 : m < days.length := by omega
                have hm2 : (m : Int) < days.length := by omega
                have hw1 : IntKind.i64.wrap ((days.length : Int) - 1) = m := by rw [IntWalk.i64_in _ (by omega)]; omega
                obtain ⟨q, e4, z1, z2⟩ := HTr.out.at2 hm1
                have HM := Lib.hid hm'
                have ha := HSA.out
                have hb := HSB.out
                rw [HM.out] at ha hb
                rw [← ha] at z1
                rw [← hb] at z2
                subst e4
                have hf1 : ¬ (lies < sa) := by omega
                have hf2 : ¬ (sb < lies) := by omega
                clear hm hm' ha hb hs1 hs2
                go_wp2_with fail
                refine (wakes_any _).mono ?_
                rintro e w8 ⟨rfl, hb8⟩
                have HF := Lib.hid (HLr.out.next hb8).below
                clear hb8
                go_wp2_with fail
                go_ret
                exact ⟨rfl, HF.out⟩
  · have hrf : readyB g days = false := by simpa using hrd
    rw [hrf] at HRD
    clear hrd hrf
    go_enter Try.func8, Try.ntmps8
    go_wp2_with fail
    refine (HRD.out).mono ?_
    rintro e w1 ⟨rfl, hb1⟩
    have H1 := Lib.hid (HL0.out.next hb1)
    clear hb1 HRD
    go_wp2_with fail
    refine (wakes_any _).mono ?_
    rintro e w2 ⟨rfl, hb2⟩
    have HF := Lib.hid (H1.out.next hb2).below
    clear hb2 H1
    go_wp2_with fail
    go_ret
    exact ⟨rfl, HF.out⟩

set_option maxRecDepth 100000 in
set_option maxHeartbeats 1000000 in
theorem waterTruth_lifted (os : Os) (started : os.Started) (H : Type) (enc : TypeId × Value → H) :
    ReturnsInHanded {} Try.checked os 8 .any (Rows.waterTruthSpec.pre6 enc Try.prog Try.f8 Rows.waterTruthRow.domain false) (Rows.waterTruthSpec.post enc Try.prog Try.f8 false true false false) := by
  refine returnsInHanded_of_change (C := Try.checked) Try.own started (by kernel_rfl) Try.func8
    (ChangeSpec.witness6 (enc := enc) (C := Try.checked) false ⟨#[], #[.agg #[.slice none 0 0, .int .i64 0, .int .i64 0, .int .i64 0, .int .i64 0, .int .i64 0], .slice none 0 0, .slice none 0 0], []⟩ 8 (by kernel_rfl) (by kernel_rfl) (by kernel_rfl) (by kernel_rfl)) ?_
  intro W base args ds gs before hval0 hW hcnd _
  have hval : ∀ (j : Nat) t v, Try.f8.params[j]? = some t → args[j]? = some v → Value.okWide Try.prog W .any base t v := hval0
  have hW' := hW
  obtain ⟨p, q, hA0, hV, rfl, hfz, hnd⟩ := hW
  have hA : DataW.TrodAll enc Try.prog W 0 (fun _ => true) true Try.f8.params.toList args.toList ds p := hA0
  rw [Try.params8] at hA hval
  obtain ⟨v0, vs0, d0, ds0, p0, q0, hargs, rfl, rfl, h0, r0⟩ := trodAll_cons hA
  obtain ⟨v1, vs1, d1, ds1, p1, q1, rfl, rfl, rfl, h1, r1⟩ := trodAll_cons r0
  obtain ⟨v2, vs2, d2, ds2, p2, q2, rfl, rfl, rfl, h2, r2⟩ := trodAll_cons r1
  obtain ⟨rfl, rfl, rfl⟩ := trodAll_nil r2
  obtain rfl : args = #[v0, v1, v2] := by cases args; simp_all
  obtain ⟨rfl, rfl⟩ := trodVars_none hV
  obtain ⟨c0, rfl, hs0⟩ := okWide_struct Try.underlying26 (hval 0 26 v0 rfl rfl)
  have k0 := h0
  have lt0 : ∀ x ∈ p0, x.block < W.heap.size := by obtain ⟨m, hm⟩ := k0; exact DataW.trod_lt m _ _ _ hm
  obtain ⟨g0, A0, cp0, e0, hl0, hrow0⟩ : ∃ (g : Gnd) (A : Option Addr) (cp : Nat), c0.toList = [.slice A g.cells.length cp, vi g.slo, vi g.shi, vi g.klo, vi g.khi, vi g.melt] ∧ g.cells.length ≤ maxLen ∧ Row cellL 7 W W.heap.size A g.cells := by
    obtain ⟨fuel, hf⟩ := h0
    exact ground_open hf
  obtain rfl : c0 = gndC A0 cp0 g0 := by cases c0; simp_all
  obtain ⟨a1, len1, cap1, rfl⟩ := okWide_slice Try.underlying27 (hval 1 27 v1 rfl rfl)
  have k1 := h1
  have lt1 : ∀ x ∈ p1, x.block < W.heap.size := by obtain ⟨m, hm⟩ := k1; exact DataW.trod_lt m _ _ _ hm
  obtain ⟨D1, l1, dp1, e1, hl1, hrow1⟩ : ∃ (D : Option Addr) (l : List Day) (dp : Nat), (Value.slice a1 len1 cap1).cells.toList = [.slice D l.length dp] ∧ l.length ≤ maxLen ∧ Row dayL 3 W W.heap.size D l := by
    obtain ⟨fuel, hf⟩ := h1
    exact days_open hf
  simp [Value.cells] at e1
  obtain ⟨rfl, rfl, rfl⟩ := e1
  obtain ⟨a2, len2, cap2, rfl⟩ := okWide_slice Try.underlying68 (hval 2 68 v2 rfl rfl)
  have k2 := h2
  have lt2 : ∀ x ∈ p2, x.block < W.heap.size := by obtain ⟨m, hm⟩ := k2; exact DataW.trod_lt m _ _ _ hm
  obtain ⟨D2, l2, dp2, e2, hl2, hrow2⟩ : ∃ (D : Option Addr) (l : List Word) (dp : Nat), (Value.slice a2 len2 cap2).cells.toList = [.slice D l.length dp] ∧ l.length ≤ maxLen ∧ Row wordL 1 W W.heap.size D l := by
    obtain ⟨fuel, hf⟩ := h2
    exact words_open hf
  simp [Value.cells] at e2
  obtain ⟨rfl, rfl, rfl⟩ := e2
  clear hA0 hval0
  refine (waterTruth_walk g0 A0 cp0 l1 a1 cap1 l2 a2 cap2 W hl2 hrow0 hrow1 hrow2).mono fun e W' ⟨he, bel⟩ => ?_
  subst he
  exact ⟨_, rfl, _, _, _, [], _, [], hW', trodAll_mk1 (shut_bool Try.underlying4 _), (trodAll_cons_mk (Below.trod Try.laidOut (by kernel_rfl) (of_decide_eq_true (by kernel_rfl)) k0 bel lt0) (trodAll_cons_mk (Below.trod Try.laidOut (by kernel_rfl) (of_decide_eq_true (by kernel_rfl)) k1 bel lt1) (trodAll_cons_mk (Below.trod Try.laidOut (by kernel_rfl) (of_decide_eq_true (by kernel_rfl)) k2 bel lt2) trodAll_mk0))), rfl, bel.frame _, fun h => by cases h⟩

theorem waterTruth_holds : Rows.WaterTruthSaid :=
  OpenClaim.holds_of_wide 8 Try.f8 rfl rfl rfl rfl rfl rfl rfl ⟨rfl, rfl, rfl, rfl, rfl⟩ rfl rfl rfl rfl rfl (by kernel_rfl) Try.func8 (by kernel_rfl)
    (of_decide_eq_true (by kernel_rfl)) (by unfold Func.isWrapper; first | (rw [if_pos (by decide +kernel)]; kernel_rfl) | (rw [if_neg (by decide +kernel)]; exact ⟨rfl, rfl⟩))
    (fun os started H enc _ => waterTruth_lifted os started H enc)
#print axioms waterTruth_holds
end Go.Proofs.Yteonkhohloabfaa
