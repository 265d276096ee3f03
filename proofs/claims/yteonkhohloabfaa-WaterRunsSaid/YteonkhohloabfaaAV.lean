/- The law WaterRuns returns true for every ground, all days and every truth, and leaves what it was given as it was. -/
import Derived.Test.YteonkhohloabfaaAU
namespace Go.Proofs.Yteonkhohloabfaa
open Go.ChangeShapes Go.WideShapes Go.ChangeAt Go.RowKit Go.Deep

theorem errB_true : errB true = 0 := rfl
theorem errB_false : errB false = 1 := rfl
theorem fault_gnd {g : Gnd} {days : List Day} (h : gndB g = false) : faultN g days = 1 := by
  unfold faultN
  rw [h]
  rfl

set_option maxRecDepth 100000 in
set_option maxHeartbeats 2000000 in
theorem waterRuns_walk (g : Gnd) (A : Option Addr) (cp : Nat) (days : List Day) (D : Option Addr) (dp : Nat) (snow soak : Int) (lv : List Int) (L : Option Addr) (lp : Nat) (rn : List Int) (R : Option Addr) (rp : Nat) (w : World)
    (hc : Row cellL 7 w w.heap.size A g.cells) (hd : Row dayL 3 w w.heap.size D days) (hL : Row intL 1 w w.heap.size L lv) (hR : Row intL 1 w w.heap.size R rn) :
    Calls Try.prog 7 #[gndV A cp g, .slice D days.length dp, truthV snow soak L lv.length lp R rn.length rp] w fun e w' => e = .returned (.bool true) ∧ Below w.heap.size w w' := by
  have HC := Lib.hid hc
  have HD := Lib.hid hd
  have HL := Lib.hid hL
  have HR := Lib.hid hR
  clear hc hd hL hR
  have HT0 := Lib.hid (thin_any g cp A days.length dp D ((w.alloc (.cells (gndC A cp g) 26)).alloc (.cells (truC snow soak L lv.length lp R rn.length rp) 47)))
  have HW0 : Hid (∀ w1, Below ((w.alloc (.cells (gndC A cp g) 26)).alloc (.cells (truC snow soak L lv.length lp R rn.length rp) 47)).heap.size ((w.alloc (.cells (gndC A cp g) 26)).alloc (.cells (truC snow soak L lv.length lp R rn.length rp) 47)) w1 → Below w.heap.size w w1 ∧ Whole w1 w.heap.size 26 (gndC A cp g) ∧ Whole w1 (w.heap.size + 1) 47 (truC snow soak L lv.length lp R rn.length rp)) := by
    intro w1 hb1
    refine ⟨below_step (((Below.refl w.heap.size w).alloc (Nat.le_refl _) _).alloc (by simp) _) hb1 (by simp only [World.size_alloc]; omega), ?_, ?_⟩
    · exact (((Whole.made w 26 (gndC A cp g)).alloc _).below hb1 (by simp only [World.size_alloc]; omega))
    · have := (Whole.made (w.alloc (.cells (gndC A cp g) 26)) 47 (truC snow soak L lv.length lp R rn.length rp)).below hb1 (by simp)
      simpa using this
  by_cases ht : thinB g.cells.length days.length = true
  · by_cases h1 : lv.length ≤ 40
    · by_cases h2 : rn.length ≤ 40
      · have hsz : g.cells.length ≤ 10 ∧ days.length ≤ 35 := by simpa [thinB] using ht
        rw [ht] at HT0
        clear ht
        have h1' : ¬ ((40 : Int) < lv.length) := by omega
        have h2' : ¬ ((40 : Int) < rn.length) := by omega
        go_enter Try.func7, Try.ntmps7
        go_wp2_with fail
        refine (HT0.out).mono ?_
        rintro e w1 ⟨rfl, hb1⟩
        have H1 := Lib.hid (HW0.out w1 hb1)
        clear hb1 HT0 HW0
        have g0 := H1.out.2.1.at 0 (v := .slice A g.cells.length cp) rfl
        have g1 := H1.out.2.1.at 1 (v := vi g.slo) rfl
        have g2 := H1.out.2.1.at 2 (v := vi g.shi) rfl
        have g3 := H1.out.2.1.at 3 (v := vi g.klo) rfl
        have g4 := H1.out.2.1.at 4 (v := vi g.khi) rfl
        have g5 := H1.out.2.1.at 5 (v := vi g.melt) rfl
        have t0 := H1.out.2.2.at 0 (v := vi snow) rfl
        have t1 := H1.out.2.2.at 1 (v := vi soak) rfl
        have t2 := H1.out.2.2.at 2 (v := .slice L lv.length lp) rfl
        have t3 := H1.out.2.2.at 3 (v := .slice R rn.length rp) rfl
        go_wp2_with fail
        refine (lawGround g A cp w1 (by omega) ((HC.out.below H1.out.1).more H1.out.1.size)).mono ?_
        rintro e w2 ⟨A2, c2, rfl, hr2, hb2⟩
        have H2 := Lib.hid (And.intro (below_next H1.out.1 hb2) (And.intro (H1.out.2.1.below hb2 H1.out.2.1.lt) (H1.out.2.2.below hb2 H1.out.2.2.lt)))
        have HR2 := Lib.hid hr2
        clear g0 g1 g2 g3 g4 g5 t0 t1 t2 t3 hb2 hr2 H1
        obtain ⟨ek, hek⟩ : ∃ ek, ek = errB (gndB g) := ⟨_, rfl⟩
        go_wp2_with fail
        refine (checkGround_any g c2 A2 w2 (by omega) HR2.out).mono ?_
        rw [← hek]
        rintro e wv ⟨rfl, hb3⟩
        have HEK := Lib.hid hek
        have H3 := Lib.hid (And.intro (below_next H2.out.1 hb3) (And.intro (H2.out.2.1.below hb3 H2.out.2.1.lt) (H2.out.2.2.below hb3 H2.out.2.2.lt)))
        clear hek hb3 H2 HR2
        have g0 := H3.out.2.1.at 0 (v := .slice A g.cells.length cp) rfl
        have g1 := H3.out.2.1.at 1 (v := vi g.slo) rfl
        have g2 := H3.out.2.1.at 2 (v := vi g.shi) rfl
        have g3 := H3.out.2.1.at 3 (v := vi g.klo) rfl
        have g4 := H3.out.2.1.at 4 (v := vi g.khi) rfl
        have g5 := H3.out.2.1.at 5 (v := vi g.melt) rfl
        have t0 := H3.out.2.2.at 0 (v := vi snow) rfl
        have t1 := H3.out.2.2.at 1 (v := vi soak) rfl
        have t2 := H3.out.2.2.at 2 (v := .slice L lv.length lp) rfl
        have t3 := H3.out.2.2.at 3 (v := .slice R rn.length rp) rfl
        go_wp2_with fail
        obtain ⟨er, her⟩ : ∃ er, er = runN g days snow soak lv rn := ⟨_, rfl⟩
        have HER := Lib.hid her
        clear her h1' h2'
        by_cases hf : er = 0
        · have hf0 := HER.out
          rw [hf] at hf0
          have HF0 := Lib.hid hf0.symm
          clear hf hf0
          refine wp_words (by kernel_rfl) (region_told 15 (by kernel_rfl) (by kernel_rfl) (fun W => Below wv.heap.size wv W) newer (pickD [vIs (gndV A cp g), vGn g, vIs (.slice D days.length dp), vDy days, vIs (truthV snow soak L lv.length lp R rn.length rp), vTr snow soak lv rn, vRun g days snow soak lv rn, vRun g days snow soak lv rn, vT1 g.cells.length days.length (fun j i => (stR g days snow soak lv rn (j + 1)).f i), vT2 days.length (fun j => (stR g days snow soak lv rn (j + 1)).left), vIs (vi (stR g days snow soak lv rn days.length).snow), vIs (vi 0), vT1 g.cells.length days.length (fun j i => (stR g days snow soak lv rn (j + 1)).f i), vT2 days.length (fun j => (stR g days snow soak lv rn (j + 1)).left), vIs (vi (stR g days snow soak lv rn days.length).snow)]) (fun h k => newer_trans h k) (pickD_stable _ ⟨vIs_st, vGn_st, vIs_st, vDy_st, vIs_st, vTr_st, vRun_st, vRun_st, vT1_st, vT2_st, vIs_st, vIs_st, vT1_st, vT2_st, vIs_st, trivial⟩) (Below.refl _ wv).drew (Below.refl _ _) ?_ ?_)
          · refine ⟨?_, ?_, ?_, ?_, ?_, ?_, ?_, ?_, ?_, ?_, ?_, ?_, ?_, ?_, ?_, trivial⟩
            · intro a W hG hR hO hp
              have h3 := hO.slot 3 (by kernel_rfl)
              have c0 := keep_cell g0 hG
              have c1 := keep_cell g1 hG
              have c2 := keep_cell g2 hG
              have c3 := keep_cell g3 hG
              have c4 := keep_cell g4 hG
              have c5 := keep_cell g5 hG
              refine wp_yields (v := gndV A cp g) ?_ ⟨_, rfl, rfl, Below.refl _ _, hG⟩
              simp [slotOf] at h3
              simp [execOp, go_sem, h3, c0, c1, c2, c3, c4, c5]
            · intro a W hG hR hO hp
              have h39 : slotOf a 39 = gndV A cp g := hp.1
              refine wp_enters (f := 19) (args := #[gndV A cp g]) ?_ ((lawGround g A cp W (by omega) ((HC.out.below (below_next H3.out.1 hG)).more (below_next H3.out.1 hG).size)).mono ?_)
              · simp [slotOf] at h39
                simp [go_sem, h39]
              · rintro e w' ⟨Ax, cx, rfl, h2, hb⟩
                exact ⟨_, rfl, _, rfl, ⟨Ax, cx, rfl, h2⟩, hb, below_next hG hb⟩
            · intro a W hG hR hO hp
              have h1 := hO.slot 1 (by kernel_rfl)
              refine wp_yields (v := .slice D days.length dp) ?_ ⟨_, rfl, rfl, Below.refl _ _, hG⟩
              simp [slotOf] at h1
              simp [execOp, go_sem, h1]
            · intro a W hG hR hO hp
              have h41 : slotOf a 41 = .slice D days.length dp := hp.1
              refine wp_enters (f := 20) (args := #[.slice D days.length dp]) ?_ ((lawDays days D dp W (by omega) ((HD.out.below (below_next H3.out.1 hG)).more (below_next H3.out.1 hG).size)).mono ?_)
              · simp [slotOf] at h41
                simp [go_sem, h41]
              · rintro e w' ⟨Ax, cx, rfl, h2, hb⟩
                exact ⟨_, rfl, _, rfl, ⟨Ax, cx, rfl, h2⟩, hb, below_next hG hb⟩
            · intro a W hG hR hO hp
              have h5 := hO.slot 5 (by kernel_rfl)
              have c0 := keep_cell t0 hG
              have c1 := keep_cell t1 hG
              have c2 := keep_cell t2 hG
              have c3 := keep_cell t3 hG
              refine wp_yields (v := truthV snow soak L lv.length lp R rn.length rp) ?_ ⟨_, rfl, rfl, Below.refl _ _, hG⟩
              simp [slotOf] at h5
              simp [execOp, go_sem, h5, c0, c1, c2, c3]
            · intro a W hG hR hO hp
              have h43 : slotOf a 43 = truthV snow soak L lv.length lp R rn.length rp := hp.1
              refine wp_enters (f := 33) (args := #[truthV snow soak L lv.length lp R rn.length rp]) ?_ ((lawTruth snow soak lv rn L lp R rp W (by omega) (by omega) ((HL.out.below (below_next H3.out.1 hG)).more (below_next H3.out.1 hG).size) ((HR.out.below (below_next H3.out.1 hG)).more (below_next H3.out.1 hG).size)).mono ?_)
              · simp [slotOf] at h43
                simp [go_sem, h43]
              · rintro e w' ⟨⟨vx, rfl, hv⟩, hb⟩
                exact ⟨_, rfl, _, rfl, hv, hb, below_next hG hb⟩
            · intro a W hG hR hO hp
              have h40 := hp.1
              have h42 := hp.2.1
              have h44 := hp.2.2.1
              obtain ⟨Ag, cg, h40, hrg⟩ := h40
              obtain ⟨Ad, cd, h42, hrd⟩ := h42
              obtain ⟨Lt, lt, Rt, rt, h44, hrl, hrr⟩ := h44
              refine wp_enters (f := 32) (args := #[gndV Ag cg g, .slice Ad days.length cd, truthV snow soak Lt lv.length lt Rt rn.length rt]) ?_ ((run_yes g Ag cg days Ad cd snow soak lv Lt lt rn Rt rt W (by omega) (by omega) (by omega) (by omega) hrg hrd hrl hrr HF0.out).mono ?_)
              · simp [slotOf] at h40 h42 h44
                simp [go_sem, h40, h42, h44]
              · rintro e w' ⟨⟨vx, rfl, hv⟩, hb⟩
                exact ⟨_, rfl, _, rfl, hv, hb, below_next hG hb⟩
            · intro a W hG hR hO hp
              have h45 := hp.1
              obtain ⟨v1, v2, h45, hv1, hv2⟩ := h45
              refine wp_yields (v := .tuple #[v1, v2, vi (stR g days snow soak lv rn days.length).snow, vi 0]) ?_ ⟨_, rfl, ⟨v1, v2, rfl, hv1, hv2⟩, Below.refl _ _, hG⟩
              simp [slotOf] at h45
              simp [execOp, go_sem, h45]
            · intro a W hG hR hO hp
              have h38 := hp.1
              obtain ⟨v1, v2, h38, hv1, hv2⟩ := h38
              refine wp_yields (v := v1) ?_ ⟨_, rfl, hv1, Below.refl _ _, hG⟩
              simp [slotOf] at h38
              simp [execOp, go_sem, h38]
            · intro a W hG hR hO hp
              have h38 := hp.1
              obtain ⟨v1, v2, h38, hv1, hv2⟩ := h38
              refine wp_yields (v := v2) ?_ ⟨_, rfl, hv2, Below.refl _ _, hG⟩
              simp [slotOf] at h38
              simp [execOp, go_sem, h38]
            · intro a W hG hR hO hp
              have h38 := hp.1
              obtain ⟨v1, v2, h38, hv1, hv2⟩ := h38
              refine wp_yields (v := vi (stR g days snow soak lv rn days.length).snow) ?_ ⟨_, rfl, rfl, Below.refl _ _, hG⟩
              simp [slotOf] at h38
              simp [execOp, go_sem, h38]
            · intro a W hG hR hO hp
              have h38 := hp.1
              obtain ⟨v1, v2, h38, hv1, hv2⟩ := h38
              refine wp_yields (v := vi 0) ?_ ⟨_, rfl, rfl, Below.refl _ _, hG⟩
              simp [slotOf] at h38
              simp [execOp, go_sem, h38]
            · intro a W hG hR hO hp
              have h46 := hp.1
              obtain ⟨Qx, cqx, Ax, cx, bx, h46, hq1, hq2⟩ := h46
              refine wp_yields (v := .slice Qx days.length cqx) ?_ ⟨_, rfl, ⟨Qx, cqx, Ax, cx, bx, rfl, hq1, hq2⟩, Below.refl _ _, hG⟩
              simp [slotOf] at h46
              simp [execOp, go_sem, h46]
            · intro a W hG hR hO hp
              have h47 := hp.1
              obtain ⟨Qx, cqx, bx, h47, hq1⟩ := h47
              refine wp_yields (v := .slice Qx days.length cqx) ?_ ⟨_, rfl, ⟨Qx, cqx, bx, rfl, hq1⟩, Below.refl _ _, hG⟩
              simp [slotOf] at h47
              simp [execOp, go_sem, h47]
            · intro a W hG hR hO hp
              have h48 : slotOf a 48 = vi (stR g days snow soak lv rn days.length).snow := hp.1
              refine wp_yields (v := vi (stR g days snow soak lv rn days.length).snow) ?_ ⟨_, rfl, rfl, Below.refl _ _, hG⟩
              simp [slotOf] at h48
              simp [execOp, go_sem, h48]
          · intro W hG hR
            rintro _ rfl _ ⟨_, _, rfl, -⟩ _ rfl _ ⟨_, _, rfl, -⟩ _ rfl _ ⟨_, _, _, _, rfl, -, -⟩ _ ⟨_, _, rfl, -, -⟩ _ ⟨_, _, rfl, -, -⟩ _ ⟨_, _, _, _, _, rfl, -, -⟩ _ ⟨_, _, _, rfl, -⟩ _ rfl _ rfl _ ⟨Q1, cq1, Af, cf, bs1, rfl, hT1, hR1⟩ _ ⟨Q2, cq2, bs2, rfl, hT2⟩ _ rfl
            change wpList _ _ _ _ _ _
            simp only [Act.put, List.setIfInBounds_toArray, List.set_cons_zero, List.set_cons_succ, List.drop_succ_cons, List.drop_zero]
            have HY := Lib.hid (And.intro (below_next H3.out.1 hG) (And.intro (H3.out.2.1.below hG H3.out.2.1.lt) (And.intro (H3.out.2.2.below hG H3.out.2.2.lt) (And.intro (show vT1 g.cells.length days.length _ (.slice Q1 days.length cq1) _ from ⟨Q1, cq1, Af, cf, bs1, rfl, hT1, hR1⟩) (show vT2 days.length _ (.slice Q2 days.length cq2) _ from ⟨Q2, cq2, bs2, rfl, hT2⟩)))))
            clear hG hR hT1 hR1 hT2 H3 g0 g1 g2 g3 g4 g5 t0 t1 t2 t3
            obtain ⟨wy, hwy⟩ : ∃ wy, wy = W := ⟨_, rfl⟩
            rw [← hwy] at HY ⊢
            clear hwy W
            have hfz := (runN_zero HF0.out).1
            have hfi := (runN_zero HF0.out).2
            have hgb : gndB g = true := (fault_zero hfz).1
            have hek := HEK.out
            rw [hgb, errB_true] at hek
            subst hek
            clear HEK
            have HG := Lib.hid (rightGround_any g cp A wy (by omega) ((HC.out.below HY.out.1).more HY.out.1.size))
            rw [hgb] at HG
            have HFT := Lib.hid (And.intro hfz (And.intro hfi (wayOk_tr hfz hfi)))
            have HLEN := Lib.hid (And.intro (fits_len hfi) (fault_some hfz))
            clear hfz hfi hgb
            have g0 := HY.out.2.1.at 0 (v := .slice A g.cells.length cp) rfl
            have g1 := HY.out.2.1.at 1 (v := vi g.slo) rfl
            have g2 := HY.out.2.1.at 2 (v := vi g.shi) rfl
            have g3 := HY.out.2.1.at 3 (v := vi g.klo) rfl
            have g4 := HY.out.2.1.at 4 (v := vi g.khi) rfl
            have g5 := HY.out.2.1.at 5 (v := vi g.melt) rfl
            have t0 := HY.out.2.2.1.at 0 (v := vi snow) rfl
            have t1 := HY.out.2.2.1.at 1 (v := vi soak) rfl
            have t2 := HY.out.2.2.1.at 2 (v := .slice L lv.length lp) rfl
            have t3 := HY.out.2.2.1.at 3 (v := .slice R rn.length rp) rfl
            go_wp2_with fail
            refine (HG.out).mono ?_
            rintro e w5 ⟨rfl, hb5⟩
            have H5 := Lib.hid (And.intro (below_next HY.out.1 hb5) (And.intro (HY.out.2.1.below hb5 HY.out.2.1.lt) (And.intro (HY.out.2.2.1.below hb5 HY.out.2.2.1.lt) (And.intro (vT1_st _ _ _ HY.out.2.2.2.1 hb5) (vT2_st _ _ _ HY.out.2.2.2.2 hb5)))))
            clear g0 g1 g2 g3 g4 g5 t0 t1 t2 t3 hb5 HG HY
            have g0 := H5.out.2.1.at 0 (v := .slice A g.cells.length cp) rfl
            have g1 := H5.out.2.1.at 1 (v := vi g.slo) rfl
            have g2 := H5.out.2.1.at 2 (v := vi g.shi) rfl
            have g3 := H5.out.2.1.at 3 (v := vi g.klo) rfl
            have g4 := H5.out.2.1.at 4 (v := vi g.khi) rfl
            have g5 := H5.out.2.1.at 5 (v := vi g.melt) rfl
            have HFA := Lib.hid (fault_any g cp A days dp D w5 (by omega) (by omega) ((HC.out.below H5.out.1).more H5.out.1.size) ((HD.out.below H5.out.1).more H5.out.1.size))
            rw [HFT.out.1] at HFA
            go_wp2_with fail
            refine (HFA.out).mono ?_
            rintro e w6 ⟨rfl, hb6⟩
            have H6 := Lib.hid (And.intro (below_next H5.out.1 hb6) (And.intro (H5.out.2.1.below hb6 H5.out.2.1.lt) (And.intro (H5.out.2.2.1.below hb6 H5.out.2.2.1.lt) (And.intro (vT1_st _ _ _ H5.out.2.2.2.1 hb6) (vT2_st _ _ _ H5.out.2.2.2.2 hb6)))))
            clear g0 g1 g2 g3 g4 g5 hb6 HFA H5
            have g0 := H6.out.2.1.at 0 (v := .slice A g.cells.length cp) rfl
            have g1 := H6.out.2.1.at 1 (v := vi g.slo) rfl
            have g2 := H6.out.2.1.at 2 (v := vi g.shi) rfl
            have g3 := H6.out.2.1.at 3 (v := vi g.klo) rfl
            have g4 := H6.out.2.1.at 4 (v := vi g.khi) rfl
            have g5 := H6.out.2.1.at 5 (v := vi g.melt) rfl
            have t0 := H6.out.2.2.1.at 0 (v := vi snow) rfl
            have t1 := H6.out.2.2.1.at 1 (v := vi soak) rfl
            have t2 := H6.out.2.2.1.at 2 (v := .slice L lv.length lp) rfl
            have t3 := H6.out.2.2.1.at 3 (v := .slice R rn.length rp) rfl
            have HFI := Lib.hid (refFits g A cp days D dp snow soak lv L lp rn R rp w6 (by omega) (by omega) (by omega) (by omega) ((HC.out.below H6.out.1).more H6.out.1.size) ((HD.out.below H6.out.1).more H6.out.1.size) ((HL.out.below H6.out.1).more H6.out.1.size) ((HR.out.below H6.out.1).more H6.out.1.size))
            rw [HFT.out.2.1] at HFI
            go_wp2_with fail
            refine (HFI.out).mono ?_
            rintro e w7 ⟨rfl, hb7⟩
            have H7 := Lib.hid (And.intro (below_next H6.out.1 hb7) (And.intro (H6.out.2.1.below hb7 H6.out.2.1.lt) (And.intro (H6.out.2.2.1.below hb7 H6.out.2.2.1.lt) (And.intro (vT1_st _ _ _ H6.out.2.2.2.1 hb7) (vT2_st _ _ _ H6.out.2.2.2.2 hb7)))))
            clear g0 g1 g2 g3 g4 g5 t0 t1 t2 t3 hb7 HFI H6
            have t0 := H7.out.2.2.1.at 0 (v := vi snow) rfl
            have t1 := H7.out.2.2.1.at 1 (v := vi soak) rfl
            have t2 := H7.out.2.2.1.at 2 (v := .slice L lv.length lp) rfl
            have t3 := H7.out.2.2.1.at 3 (v := .slice R rn.length rp) rfl
            go_wp2_with fail
            clear t0 t1 t2 t3
            go_loopw [14, 13] (fun s14 s13 wr => ∃ k : Nat, k ≤ days.length ∧ s14 = .int .i64 k ∧ s13 = vi (stR g days snow soak lv rn k).snow ∧ newer w7 wr) (fun s14 _ _ => days.length - (intOf s14).toNat)
            case atStart => exact ⟨0, Nat.zero_le _, rfl, rfl, Below.refl _ _⟩
            case round =>
              obtain ⟨k, hk, rfl, rfl, hnw⟩ := hrel
              have HX := Lib.hid (And.intro (below_next H7.out.1 hnw) (And.intro (H7.out.2.1.below hnw H7.out.2.1.lt) (And.intro (H7.out.2.2.1.below hnw H7.out.2.2.1.lt) (And.intro (vT1_st _ _ _ H7.out.2.2.2.1 hnw) (vT2_st _ _ _ H7.out.2.2.2.2 hnw)))))
              have HNW := Lib.hid hnw
              clear hnw
              by_cases hlt : k < days.length
              · have hkm : (k : Int) < days.length := by omega
                have hkw : IntKind.i64.wrap ((k : Int) + 1) = (k : Int) + 1 := IntWalk.i64_in _ (by omega)
                have g0 := HX.out.2.1.at 0 (v := .slice A g.cells.length cp) rfl
                have g1 := HX.out.2.1.at 1 (v := vi g.slo) rfl
                have g2 := HX.out.2.1.at 2 (v := vi g.shi) rfl
                have g3 := HX.out.2.1.at 3 (v := vi g.klo) rfl
                have g4 := HX.out.2.1.at 4 (v := vi g.khi) rfl
                have g5 := HX.out.2.1.at 5 (v := vi g.melt) rfl
                have t0 := HX.out.2.2.1.at 0 (v := vi snow) rfl
                have t1 := HX.out.2.2.1.at 1 (v := vi soak) rfl
                have t2 := HX.out.2.2.1.at 2 (v := .slice L lv.length lp) rfl
                have t3 := HX.out.2.2.1.at 3 (v := .slice R rn.length rp) rfl
                have haf := refAfter g A cp days D dp snow soak lv L lp rn R rp HFT.out.2.2 HLEN.out.2.1 HLEN.out.1.1 (k + 1) (by omega) wr ((HC.out.below HX.out.1).more HX.out.1.size) ((HD.out.below HX.out.1).more HX.out.1.size) ((HL.out.below HX.out.1).more HX.out.1.size) ((HR.out.below HX.out.1).more HX.out.1.size)
                rw [show ((k + 1 : Nat) : Int) = (k : Int) + 1 by omega] at haf
                have HAF : Hid (Calls Try.prog 22 #[gndV A cp g, .slice D days.length dp, truthV snow soak L lv.length lp R rn.length rp, .int .i64 ((k : Int) + 1)] wr (aftered wr g.cells.length (stR g days snow soak lv rn (k + 1)))) := haf
                clear haf
                go_wp2_with fail
                refine (HAF.out).mono ?_
                rintro e w8 ⟨Ax, cx, rfl, hrx, hb8⟩
                have HX8 := Lib.hid (And.intro (below_next HNW.out hb8) (And.intro (vT1_st _ _ _ HX.out.2.2.2.1 hb8) (vT2_st _ _ _ HX.out.2.2.2.2 hb8)))
                obtain ⟨q1, Ay, cy, e1, y1, hry⟩ := vT1_at HX8.out.2.1 hlt
                have hint := lawInts _ _ Ay Ax cy cx w8 (by simp; omega) (by simp; omega) hry hrx
                simp only [List.length_map, List.length_range, decide_true] at hint
                have HI := Lib.hid hint
                subst e1
                clear g0 g1 g2 g3 g4 g5 t0 t1 t2 t3 hb8 hrx hry hint HAF HX
                go_wp2_with fail
                refine (HI.out).mono ?_
                rintro e w9 ⟨rfl, hb9⟩
                obtain ⟨q2, e2, z2⟩ := vT2_at (vT2_st _ _ _ HX8.out.2.2 hb9) hlt
                have HN9 := Lib.hid (below_next HX8.out.1 hb9)
                subst e2
                clear y1 hb9 HI
                go_wp2_with fail
                exact ⟨⟨k + 1, by omega, by push_cast; rfl, rfl, HN9.out⟩, by (simp only [intOf]; omega)⟩
              · obtain rfl : k = days.length := by omega
                go_wp2_with fail
                refine (wakes_any _).mono ?_
                rintro e w8 ⟨rfl, hb8⟩
                have HX8 := Lib.hid (below_next HX.out.1 hb8)
                clear hb8
                go_wp2_with fail
                go_ret
                exact ⟨rfl, HX8.out⟩
        · have hfb : (er == 0) = false := by simpa using hf
          have hfn : (er != 0) = true := by simpa using hf
          have HN := Lib.hid hf
          clear hf
          refine wp_words (by kernel_rfl) (region_told 15 (by kernel_rfl) (by kernel_rfl) (fun W => Below wv.heap.size wv W) newer (pickD [vIs (gndV A cp g), vGn g, vIs (.slice D days.length dp), vDy days, vIs (truthV snow soak L lv.length lp R rn.length rp), vTr snow soak lv rn, vIs (.tuple #[.slice none 0 0, .slice none 0 0, vi 0, .int .i64 er]), vIs (.tuple #[.slice none 0 0, .slice none 0 0, vi 0, .int .i64 er]), vIs (.slice none 0 0), vIs (.slice none 0 0), vIs (vi 0), vIs (.int .i64 er), vIs (.slice none 0 0), vIs (.slice none 0 0), vIs (vi 0)]) (fun h k => newer_trans h k) (pickD_stable _ ⟨vIs_st, vGn_st, vIs_st, vDy_st, vIs_st, vTr_st, vIs_st, vIs_st, vIs_st, vIs_st, vIs_st, vIs_st, vIs_st, vIs_st, vIs_st, trivial⟩) (Below.refl _ wv).drew (Below.refl _ _) ?_ ?_)
          · refine ⟨?_, ?_, ?_, ?_, ?_, ?_, ?_, ?_, ?_, ?_, ?_, ?_, ?_, ?_, ?_, trivial⟩
            · intro a W hG hR hO hp
              have h3 := hO.slot 3 (by kernel_rfl)
              have c0 := keep_cell g0 hG
              have c1 := keep_cell g1 hG
              have c2 := keep_cell g2 hG
              have c3 := keep_cell g3 hG
              have c4 := keep_cell g4 hG
              have c5 := keep_cell g5 hG
              refine wp_yields (v := gndV A cp g) ?_ ⟨_, rfl, rfl, Below.refl _ _, hG⟩
              simp [slotOf] at h3
              simp [execOp, go_sem, h3, c0, c1, c2, c3, c4, c5]
            · intro a W hG hR hO hp
              have h39 : slotOf a 39 = gndV A cp g := hp.1
              refine wp_enters (f := 19) (args := #[gndV A cp g]) ?_ ((lawGround g A cp W (by omega) ((HC.out.below (below_next H3.out.1 hG)).more (below_next H3.out.1 hG).size)).mono ?_)
              · simp [slotOf] at h39
                simp [go_sem, h39]
              · rintro e w' ⟨Ax, cx, rfl, h2, hb⟩
                exact ⟨_, rfl, _, rfl, ⟨Ax, cx, rfl, h2⟩, hb, below_next hG hb⟩
            · intro a W hG hR hO hp
              have h1 := hO.slot 1 (by kernel_rfl)
              refine wp_yields (v := .slice D days.length dp) ?_ ⟨_, rfl, rfl, Below.refl _ _, hG⟩
              simp [slotOf] at h1
              simp [execOp, go_sem, h1]
            · intro a W hG hR hO hp
              have h41 : slotOf a 41 = .slice D days.length dp := hp.1
              refine wp_enters (f := 20) (args := #[.slice D days.length dp]) ?_ ((lawDays days D dp W (by omega) ((HD.out.below (below_next H3.out.1 hG)).more (below_next H3.out.1 hG).size)).mono ?_)
              · simp [slotOf] at h41
                simp [go_sem, h41]
              · rintro e w' ⟨Ax, cx, rfl, h2, hb⟩
                exact ⟨_, rfl, _, rfl, ⟨Ax, cx, rfl, h2⟩, hb, below_next hG hb⟩
            · intro a W hG hR hO hp
              have h5 := hO.slot 5 (by kernel_rfl)
              have c0 := keep_cell t0 hG
              have c1 := keep_cell t1 hG
              have c2 := keep_cell t2 hG
              have c3 := keep_cell t3 hG
              refine wp_yields (v := truthV snow soak L lv.length lp R rn.length rp) ?_ ⟨_, rfl, rfl, Below.refl _ _, hG⟩
              simp [slotOf] at h5
              simp [execOp, go_sem, h5, c0, c1, c2, c3]
            · intro a W hG hR hO hp
              have h43 : slotOf a 43 = truthV snow soak L lv.length lp R rn.length rp := hp.1
              refine wp_enters (f := 33) (args := #[truthV snow soak L lv.length lp R rn.length rp]) ?_ ((lawTruth snow soak lv rn L lp R rp W (by omega) (by omega) ((HL.out.below (below_next H3.out.1 hG)).more (below_next H3.out.1 hG).size) ((HR.out.below (below_next H3.out.1 hG)).more (below_next H3.out.1 hG).size)).mono ?_)
              · simp [slotOf] at h43
                simp [go_sem, h43]
              · rintro e w' ⟨⟨vx, rfl, hv⟩, hb⟩
                exact ⟨_, rfl, _, rfl, hv, hb, below_next hG hb⟩
            · intro a W hG hR hO hp
              have h40 := hp.1
              have h42 := hp.2.1
              have h44 := hp.2.2.1
              obtain ⟨Ag, cg, h40, hrg⟩ := h40
              obtain ⟨Ad, cd, h42, hrd⟩ := h42
              obtain ⟨Lt, lt, Rt, rt, h44, hrl, hrr⟩ := h44
              refine wp_enters (f := 32) (args := #[gndV Ag cg g, .slice Ad days.length cd, truthV snow soak Lt lv.length lt Rt rn.length rt]) ?_ ((run_no g Ag cg days Ad cd snow soak lv Lt lt rn Rt rt W (by omega) (by omega) (by omega) (by omega) hrg hrd hrl hrr er HER.out HN.out).mono ?_)
              · simp [slotOf] at h40 h42 h44
                simp [go_sem, h40, h42, h44]
              · rintro e w' ⟨rfl, hb⟩
                exact ⟨_, rfl, _, rfl, rfl, hb, below_next hG hb⟩
            · intro a W hG hR hO hp
              have h45 : slotOf a 45 = .tuple #[.slice none 0 0, .slice none 0 0, vi 0, .int .i64 er] := hp.1
              refine wp_yields (v := .tuple #[.slice none 0 0, .slice none 0 0, vi 0, .int .i64 er]) ?_ ⟨_, rfl, rfl, Below.refl _ _, hG⟩
              simp [slotOf] at h45
              simp [execOp, go_sem, h45]
            · intro a W hG hR hO hp
              have h38 : slotOf a 38 = .tuple #[.slice none 0 0, .slice none 0 0, vi 0, .int .i64 er] := hp.1
              refine wp_yields (v := .slice none 0 0) ?_ ⟨_, rfl, rfl, Below.refl _ _, hG⟩
              simp [slotOf] at h38
              simp [execOp, go_sem, h38]
            · intro a W hG hR hO hp
              have h38 : slotOf a 38 = .tuple #[.slice none 0 0, .slice none 0 0, vi 0, .int .i64 er] := hp.1
              refine wp_yields (v := .slice none 0 0) ?_ ⟨_, rfl, rfl, Below.refl _ _, hG⟩
              simp [slotOf] at h38
              simp [execOp, go_sem, h38]
            · intro a W hG hR hO hp
              have h38 : slotOf a 38 = .tuple #[.slice none 0 0, .slice none 0 0, vi 0, .int .i64 er] := hp.1
              refine wp_yields (v := vi 0) ?_ ⟨_, rfl, rfl, Below.refl _ _, hG⟩
              simp [slotOf] at h38
              simp [execOp, go_sem, h38]
            · intro a W hG hR hO hp
              have h38 : slotOf a 38 = .tuple #[.slice none 0 0, .slice none 0 0, vi 0, .int .i64 er] := hp.1
              refine wp_yields (v := .int .i64 er) ?_ ⟨_, rfl, rfl, Below.refl _ _, hG⟩
              simp [slotOf] at h38
              simp [execOp, go_sem, h38]
            · intro a W hG hR hO hp
              have h46 : slotOf a 46 = .slice none 0 0 := hp.1
              refine wp_yields (v := .slice none 0 0) ?_ ⟨_, rfl, rfl, Below.refl _ _, hG⟩
              simp [slotOf] at h46
              simp [execOp, go_sem, h46]
            · intro a W hG hR hO hp
              have h47 : slotOf a 47 = .slice none 0 0 := hp.1
              refine wp_yields (v := .slice none 0 0) ?_ ⟨_, rfl, rfl, Below.refl _ _, hG⟩
              simp [slotOf] at h47
              simp [execOp, go_sem, h47]
            · intro a W hG hR hO hp
              have h48 : slotOf a 48 = vi 0 := hp.1
              refine wp_yields (v := vi 0) ?_ ⟨_, rfl, rfl, Below.refl _ _, hG⟩
              simp [slotOf] at h48
              simp [execOp, go_sem, h48]
          · intro W hG hR
            rintro _ rfl _ ⟨_, _, rfl, -⟩ _ rfl _ ⟨_, _, rfl, -⟩ _ rfl _ ⟨_, _, _, _, rfl, -, -⟩ _ rfl _ rfl _ rfl _ rfl _ rfl _ rfl _ rfl _ rfl _ rfl
            change wpList _ _ _ _ _ _
            simp only [Act.put, List.setIfInBounds_toArray, List.set_cons_zero, List.set_cons_succ, List.drop_succ_cons, List.drop_zero]
            have HY := Lib.hid (And.intro (below_next H3.out.1 hG) (And.intro (H3.out.2.1.below hG H3.out.2.1.lt) (H3.out.2.2.below hG H3.out.2.2.lt)))
            clear hG hR H3 g0 g1 g2 g3 g4 g5 t0 t1 t2 t3
            obtain ⟨wy, hwy⟩ : ∃ wy, wy = W := ⟨_, rfl⟩
            rw [← hwy] at HY ⊢
            clear hwy W
            have HG := Lib.hid (rightGround_any g cp A wy (by omega) ((HC.out.below HY.out.1).more HY.out.1.size))
            by_cases hfz : faultN g days = 0
            · have hgb : gndB g = true := (fault_zero hfz).1
              have hfi : fitsB g days snow soak lv rn = false := by
                cases hq : fitsB g days snow soak lv rn with
                | false => rfl
                | true => exact absurd (HER.out.trans (by unfold runN; rw [if_pos hfz, if_pos hq])) HN.out
              have he9 : er = 9 := HER.out.trans (by unfold runN; rw [if_pos hfz, if_neg (by rw [hfi]; decide)])
              have hek := HEK.out
              rw [hgb, errB_true] at hek
              subst hek
              subst he9
              rw [hgb] at HG
              have HFZ := Lib.hid (And.intro hfz hfi)
              clear HEK hgb hfz hfi hfb hfn
              have g0 := HY.out.2.1.at 0 (v := .slice A g.cells.length cp) rfl
              have g1 := HY.out.2.1.at 1 (v := vi g.slo) rfl
              have g2 := HY.out.2.1.at 2 (v := vi g.shi) rfl
              have g3 := HY.out.2.1.at 3 (v := vi g.klo) rfl
              have g4 := HY.out.2.1.at 4 (v := vi g.khi) rfl
              have g5 := HY.out.2.1.at 5 (v := vi g.melt) rfl
              go_wp2_with fail
              refine (HG.out).mono ?_
              rintro e w5 ⟨rfl, hb5⟩
              have H5 := Lib.hid (And.intro (below_next HY.out.1 hb5) (And.intro (HY.out.2.1.below hb5 HY.out.2.1.lt) (HY.out.2.2.below hb5 HY.out.2.2.lt)))
              clear g0 g1 g2 g3 g4 g5 hb5 HG HY
              have g0 := H5.out.2.1.at 0 (v := .slice A g.cells.length cp) rfl
              have g1 := H5.out.2.1.at 1 (v := vi g.slo) rfl
              have g2 := H5.out.2.1.at 2 (v := vi g.shi) rfl
              have g3 := H5.out.2.1.at 3 (v := vi g.klo) rfl
              have g4 := H5.out.2.1.at 4 (v := vi g.khi) rfl
              have g5 := H5.out.2.1.at 5 (v := vi g.melt) rfl
              have HFA := Lib.hid (fault_any g cp A days dp D w5 (by omega) (by omega) ((HC.out.below H5.out.1).more H5.out.1.size) ((HD.out.below H5.out.1).more H5.out.1.size))
              rw [HFZ.out.1] at HFA
              go_wp2_with fail
              refine (HFA.out).mono ?_
              rintro e w6 ⟨rfl, hb6⟩
              have H6 := Lib.hid (And.intro (below_next H5.out.1 hb6) (And.intro (H5.out.2.1.below hb6 H5.out.2.1.lt) (H5.out.2.2.below hb6 H5.out.2.2.lt)))
              clear g0 g1 g2 g3 g4 g5 hb6 HFA H5
              have g0 := H6.out.2.1.at 0 (v := .slice A g.cells.length cp) rfl
              have g1 := H6.out.2.1.at 1 (v := vi g.slo) rfl
              have g2 := H6.out.2.1.at 2 (v := vi g.shi) rfl
              have g3 := H6.out.2.1.at 3 (v := vi g.klo) rfl
              have g4 := H6.out.2.1.at 4 (v := vi g.khi) rfl
              have g5 := H6.out.2.1.at 5 (v := vi g.melt) rfl
              have t0 := H6.out.2.2.at 0 (v := vi snow) rfl
              have t1 := H6.out.2.2.at 1 (v := vi soak) rfl
              have t2 := H6.out.2.2.at 2 (v := .slice L lv.length lp) rfl
              have t3 := H6.out.2.2.at 3 (v := .slice R rn.length rp) rfl
              have HFI := Lib.hid (refFits g A cp days D dp snow soak lv L lp rn R rp w6 (by omega) (by omega) (by omega) (by omega) ((HC.out.below H6.out.1).more H6.out.1.size) ((HD.out.below H6.out.1).more H6.out.1.size) ((HL.out.below H6.out.1).more H6.out.1.size) ((HR.out.below H6.out.1).more H6.out.1.size))
              rw [HFZ.out.2] at HFI
              go_wp2_with fail
              refine (HFI.out).mono ?_
              rintro e w7 ⟨rfl, hb7⟩
              have H7 := Lib.hid (below_next H6.out.1 hb7)
              clear g0 g1 g2 g3 g4 g5 t0 t1 t2 t3 hb7 HFI H6
              go_wp2_with fail
              refine (wakes_any _).mono ?_
              rintro e w8 ⟨rfl, hb8⟩
              have HX8 := Lib.hid (below_next H7.out hb8)
              clear hb8
              go_wp2_with fail
              go_ret
              exact ⟨rfl, HX8.out⟩
            · have hee : er = faultN g days := HER.out.trans (by unfold runN; rw [if_neg hfz])
              have HEE := Lib.hid hee
              clear hfz hee
              cases hgb : gndB g
              · have hek := HEK.out
                rw [hgb, errB_false] at hek
                subst hek
                rw [hgb] at HG
                clear HEK hgb
                have g0 := HY.out.2.1.at 0 (v := .slice A g.cells.length cp) rfl
                have g1 := HY.out.2.1.at 1 (v := vi g.slo) rfl
                have g2 := HY.out.2.1.at 2 (v := vi g.shi) rfl
                have g3 := HY.out.2.1.at 3 (v := vi g.klo) rfl
                have g4 := HY.out.2.1.at 4 (v := vi g.khi) rfl
                have g5 := HY.out.2.1.at 5 (v := vi g.melt) rfl
                go_wp2_with fail
                refine (HG.out).mono ?_
                rintro e w5 ⟨rfl, hb5⟩
                have H5 := Lib.hid (And.intro (below_next HY.out.1 hb5) (HY.out.2.1.below hb5 HY.out.2.1.lt))
                clear g0 g1 g2 g3 g4 g5 hb5 HG HY
                have g0 := H5.out.2.at 0 (v := .slice A g.cells.length cp) rfl
                have g1 := H5.out.2.at 1 (v := vi g.slo) rfl
                have g2 := H5.out.2.at 2 (v := vi g.shi) rfl
                have g3 := H5.out.2.at 3 (v := vi g.klo) rfl
                have g4 := H5.out.2.at 4 (v := vi g.khi) rfl
                have g5 := H5.out.2.at 5 (v := vi g.melt) rfl
                have HFA := Lib.hid (fault_any g cp A days dp D w5 (by omega) (by omega) ((HC.out.below H5.out.1).more H5.out.1.size) ((HD.out.below H5.out.1).more H5.out.1.size))
                rw [← HEE.out] at HFA
                go_wp2_with fail
                refine (HFA.out).mono ?_
                rintro e w6 ⟨rfl, hb6⟩
                have H6 := Lib.hid (below_next H5.out.1 hb6)
                clear g0 g1 g2 g3 g4 g5 hb6 HFA H5
                go_wp2_with fail
                refine (wakes_any _).mono ?_
                rintro e w8 ⟨rfl, hb8⟩
                have HX8 := Lib.hid (below_next H6.out hb8)
                clear hb8
                go_wp2_with fail
                go_ret
                exact ⟨rfl, HX8.out⟩
              · have hek := HEK.out
                rw [hgb, errB_true] at hek
                subst hek
                rw [hgb] at HG
                clear HEK hgb
                have g0 := HY.out.2.1.at 0 (v := .slice A g.cells.length cp) rfl
                have g1 := HY.out.2.1.at 1 (v := vi g.slo) rfl
                have g2 := HY.out.2.1.at 2 (v := vi g.shi) rfl
                have g3 := HY.out.2.1.at 3 (v := vi g.klo) rfl
                have g4 := HY.out.2.1.at 4 (v := vi g.khi) rfl
                have g5 := HY.out.2.1.at 5 (v := vi g.melt) rfl
                go_wp2_with fail
                refine (HG.out).mono ?_
                rintro e w5 ⟨rfl, hb5⟩
                have H5 := Lib.hid (And.intro (below_next HY.out.1 hb5) (HY.out.2.1.below hb5 HY.out.2.1.lt))
                clear g0 g1 g2 g3 g4 g5 hb5 HG HY
                have g0 := H5.out.2.at 0 (v := .slice A g.cells.length cp) rfl
                have g1 := H5.out.2.at 1 (v := vi g.slo) rfl
                have g2 := H5.out.2.at 2 (v := vi g.shi) rfl
                have g3 := H5.out.2.at 3 (v := vi g.klo) rfl
                have g4 := H5.out.2.at 4 (v := vi g.khi) rfl
                have g5 := H5.out.2.at 5 (v := vi g.melt) rfl
                have HFA := Lib.hid (fault_any g cp A days dp D w5 (by omega) (by omega) ((HC.out.below H5.out.1).more H5.out.1.size) ((HD.out.below H5.out.1).more H5.out.1.size))
                rw [← HEE.out] at HFA
                go_wp2_with fail
                refine (HFA.out).mono ?_
                rintro e w6 ⟨rfl, hb6⟩
                have H6 := Lib.hid (below_next H5.out.1 hb6)
                clear g0 g1 g2 g3 g4 g5 hb6 HFA H5
                go_wp2_with fail
                refine (wakes_any _).mono ?_
                rintro e w8 ⟨rfl, hb8⟩
                have HX8 := Lib.hid (below_next H6.out hb8)
                clear hb8
                go_wp2_with fail
                go_ret
                exact ⟨rfl, HX8.out⟩
      · have h1' : ¬ ((40 : Int) < lv.length) := by omega
        have h2' : (40 : Int) < rn.length := by omega
        rw [ht] at HT0
        clear ht h1 h2
        go_enter Try.func7, Try.ntmps7
        go_wp2_with fail
        refine (HT0.out).mono ?_
        rintro e w1 ⟨rfl, hb1⟩
        have H1 := Lib.hid (HW0.out w1 hb1)
        clear hb1 HT0 HW0
        have t0 := H1.out.2.2.at 0 (v := vi snow) rfl
        have t1 := H1.out.2.2.at 1 (v := vi soak) rfl
        have t2 := H1.out.2.2.at 2 (v := .slice L lv.length lp) rfl
        have t3 := H1.out.2.2.at 3 (v := .slice R rn.length rp) rfl
        go_wp2_with fail
        refine (wakes_any _).mono ?_
        rintro e w2 ⟨rfl, hb2⟩
        have HF := Lib.hid (below_next H1.out.1 hb2)
        clear hb2
        go_wp2_with fail
        go_ret
        exact ⟨rfl, HF.out⟩
    · have h1' : (40 : Int) < lv.length := by omega
      rw [ht] at HT0
      clear ht h1
      go_enter Try.func7, Try.ntmps7
      go_wp2_with fail
      refine (HT0.out).mono ?_
      rintro e w1 ⟨rfl, hb1⟩
      have H1 := Lib.hid (HW0.out w1 hb1)
      clear hb1 HT0 HW0
      have t0 := H1.out.2.2.at 0 (v := vi snow) rfl
      have t1 := H1.out.2.2.at 1 (v := vi soak) rfl
      have t2 := H1.out.2.2.at 2 (v := .slice L lv.length lp) rfl
      have t3 := H1.out.2.2.at 3 (v := .slice R rn.length rp) rfl
      go_wp2_with fail
      refine (wakes_any _).mono ?_
      rintro e w2 ⟨rfl, hb2⟩
      have HF := Lib.hid (below_next H1.out.1 hb2)
      clear hb2
      go_wp2_with fail
      go_ret
      exact ⟨rfl, HF.out⟩
  · have ht : thinB g.cells.length days.length = false := by simpa using ht
    rw [ht] at HT0
    clear ht
    go_enter Try.func7, Try.ntmps7
    go_wp2_with fail
    refine (HT0.out).mono ?_
    rintro e w1 ⟨rfl, hb1⟩
    have H1 := Lib.hid (HW0.out w1 hb1)
    clear hb1 HT0 HW0
    have t0 := H1.out.2.2.at 0 (v := vi snow) rfl
    have t1 := H1.out.2.2.at 1 (v := vi soak) rfl
    have t2 := H1.out.2.2.at 2 (v := .slice L lv.length lp) rfl
    have t3 := H1.out.2.2.at 3 (v := .slice R rn.length rp) rfl
    go_wp2_with fail
    refine (wakes_any _).mono ?_
    rintro e w2 ⟨rfl, hb2⟩
    have HF := Lib.hid (below_next H1.out.1 hb2)
    clear hb2
    go_wp2_with fail
    go_ret
    exact ⟨rfl, HF.out⟩

set_option maxRecDepth 100000 in
theorem waterRuns_lifted (os : Os) (started : os.Started) (H : Type) (enc : TypeId × Value → H) :
    ReturnsInHanded {} Try.checked os 7 .any (Rows.waterRunsSpec.pre6 enc Try.prog Try.f7 Rows.waterRunsRow.domain false) (Rows.waterRunsSpec.post enc Try.prog Try.f7 false true false false) := by
  refine returnsInHanded_of_change (C := Try.checked) Try.own started (by kernel_rfl) Try.func7
    (ChangeSpec.witness6 (enc := enc) (C := Try.checked) false ⟨#[], #[.agg #[.slice none 0 0, .int .i64 0, .int .i64 0, .int .i64 0, .int .i64 0, .int .i64 0], .slice none 0 0, .agg #[.int .i64 0, .int .i64 0, .slice none 0 0, .slice none 0 0]], []⟩ 8 (by kernel_rfl) (by kernel_rfl) (by kernel_rfl) (by kernel_rfl)) ?_
  intro W base args ds gs before hval0 hW hcnd _
  have hval : ∀ (j : Nat) t v, Try.f7.params[j]? = some t → args[j]? = some v → Value.okWide Try.prog W .any base t v := hval0
  have hW' := hW
  obtain ⟨p, q, hA0, hV, rfl, hfz, hnd⟩ := hW
  have hA : DataW.TrodAll enc Try.prog W 0 (fun _ => true) true Try.f7.params.toList args.toList ds p := hA0
  rw [Try.params7] at hA hval
  obtain ⟨v0, vs0, d0, ds0, p0, q0, hargs, rfl, rfl, h0, r0⟩ := trodAll_cons hA
  obtain ⟨v1, vs1, d1, ds1, p1, q1, rfl, rfl, rfl, h1, r1⟩ := trodAll_cons r0
  obtain ⟨v2, vs2, d2, ds2, p2, q2, rfl, rfl, rfl, h2, r2⟩ := trodAll_cons r1
  obtain ⟨rfl, rfl, rfl⟩ := trodAll_nil r2
  obtain rfl : args = #[v0, v1, v2] := by cases args; simp_all
  obtain ⟨rfl, rfl⟩ := trodVars_none hV
  obtain ⟨c0, rfl, hs0⟩ := okWide_struct Try.underlying26 (hval 0 26 v0 rfl rfl)
  have k0 := h0
  have lt0 : ∀ x ∈ p0, x.block < W.heap.size := by obtain ⟨m, hm⟩ := k0; exact DataW.trod_lt m _ _ _ hm
  obtain ⟨g0, A0, cp0, e0, hl0, hrow0⟩ : ∃ (g : Gnd) (A : Option Addr) (cp : Nat), c0.toList = [.slice A g.cells.length cp, vi g.slo, vi g.shi, vi g.klo, vi g.khi, vi g.melt] ∧ g.cells.length ≤ maxLen ∧ Row cellL 7 W W.heap.size A g.cells := by
    obtain ⟨fuel, hf⟩ := h0
    exact ground_open hf
  obtain rfl : c0 = gndC A0 cp0 g0 := by cases c0; simp_all
  obtain ⟨a1, len1, cap1, rfl⟩ := okWide_slice Try.underlying27 (hval 1 27 v1 rfl rfl)
  have k1 := h1
  have lt1 : ∀ x ∈ p1, x.block < W.heap.size := by obtain ⟨m, hm⟩ := k1; exact DataW.trod_lt m _ _ _ hm
  obtain ⟨D1, l1, dp1, e1, hl1, hrow1⟩ : ∃ (D : Option Addr) (l : List Day) (dp : Nat), (Value.slice a1 len1 cap1).cells.toList = [.slice D l.length dp] ∧ l.length ≤ maxLen ∧ Row dayL 3 W W.heap.size D l := by
    obtain ⟨fuel, hf⟩ := h1
    exact days_open hf
  simp [Value.cells] at e1
  obtain ⟨rfl, rfl, rfl⟩ := e1
  obtain ⟨c2, rfl, hs2⟩ := okWide_struct Try.underlying47 (hval 2 47 v2 rfl rfl)
  have k2 := h2
  have lt2 : ∀ x ∈ p2, x.block < W.heap.size := by obtain ⟨m, hm⟩ := k2; exact DataW.trod_lt m _ _ _ hm
  obtain ⟨sn2, so2, lv2, Lv2, lp2, rn2, Rn2, rp2, e2, hl2, hrow2, hr2, hrowr2⟩ : ∃ (sn so : Int) (lv : List Int) (Lv : Option Addr) (lp : Nat) (rn : List Int) (Rn : Option Addr) (rp : Nat), c2.toList = [vi sn, vi so, .slice Lv lv.length lp, .slice Rn rn.length rp] ∧ lv.length ≤ maxLen ∧ Row intL 1 W W.heap.size Lv lv ∧ rn.length ≤ maxLen ∧ Row intL 1 W W.heap.size Rn rn := by
    obtain ⟨fuel, hf⟩ := h2
    exact truth_open hf
  obtain rfl : c2 = #[vi sn2, vi so2, .slice Lv2 lv2.length lp2, .slice Rn2 rn2.length rp2] := by cases c2; simp_all
  clear hA0 hval0
  refine (waterRuns_walk g0 A0 cp0 l1 a1 cap1 sn2 so2 lv2 Lv2 lp2 rn2 Rn2 rp2 W hrow0 hrow1 hrow2 hrowr2).mono fun e W' ⟨he, bel⟩ => ?_
  subst he
  exact ⟨_, rfl, _, _, _, [], _, [], hW', trodAll_mk1 (shut_bool Try.underlying4 _), (trodAll_cons_mk (Below.trod Try.laidOut (by kernel_rfl) (of_decide_eq_true (by kernel_rfl)) k0 bel lt0) (trodAll_cons_mk (Below.trod Try.laidOut (by kernel_rfl) (of_decide_eq_true (by kernel_rfl)) k1 bel lt1) (trodAll_cons_mk (Below.trod Try.laidOut (by kernel_rfl) (of_decide_eq_true (by kernel_rfl)) k2 bel lt2) trodAll_mk0))), rfl, bel.frame _, fun h => by cases h⟩

theorem waterRuns_holds : Rows.WaterRunsSaid :=
  OpenClaim.holds_of_wide 7 Try.f7 rfl rfl rfl rfl rfl rfl rfl ⟨rfl, rfl, rfl, rfl, rfl⟩ rfl rfl rfl rfl rfl (by kernel_rfl) Try.func7 (by kernel_rfl)
    (of_decide_eq_true (by kernel_rfl)) (by unfold Func.isWrapper; first | (rw [if_pos (by decide +kernel)]; kernel_rfl) | (rw [if_neg (by decide +kernel)]; exact ⟨rfl, rfl⟩))
    (fun os started H enc _ => waterRuns_lifted os started H enc)
#print axioms waterRuns_holds
end Go.Proofs.Yteonkhohloabfaa
