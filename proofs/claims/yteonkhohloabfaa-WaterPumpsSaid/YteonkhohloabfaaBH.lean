/- The law WaterPumps returns true for every ground, all days, all words and every cell and level, and leaves what it was given as it was. -/
import Derived.Test.YteonkhohloabfaaBG
namespace Go.Proofs.Yteonkhohloabfaa
open Go.ChangeShapes Go.WideShapes Go.ChangeAt Go.RowKit Go.Deep

set_option maxRecDepth 100000 in
set_option maxHeartbeats 4000000 in
theorem waterPumps_walk (g : Gnd) (A : Option Addr) (cp : Nat) (days : List Day) (D : Option Addr) (dp : Nat) (ws : List Word) (V : Option Addr) (vp : Nat) (cell level less : Int) (w : World) (hlws : ws.length ≤ maxLen)
    (hc0 : 0 ≤ cell) (hc1 : cell ≤ 255) (hv0 : 0 ≤ level) (hv1 : level ≤ 65535) (hs0 : 0 ≤ less) (hs1 : less ≤ 65535)
    (hc : Row cellL 7 w w.heap.size A g.cells) (hd : Row dayL 3 w w.heap.size D days) (hv : Row wordL 1 w w.heap.size V ws) :
    Calls Try.prog 11 #[gndV A cp g, .slice D days.length dp, .slice V ws.length vp, .int .u8 cell, .int .u16 level, .int .u16 less] w fun e w' => e = .returned (.bool true) ∧ Below w.heap.size w w' := by
  have HVws := Lib.hid hv
  have HL0 := Lib.hid (Lw.made (cp := cp) hc hd)
  clear hc hd hv
  have HRD := Lib.hid (ready_any g cp A days dp D (w.alloc (.cells (gndC A cp g) 26)) HL0.out.hc HL0.out.hd)
  by_cases hrd : readyB g days = true
  · obtain ⟨hs1, hs2, hfz⟩ := ready_zero hrd
    have hn1 := (fault_cells hfz).1
    have hn8 := (fault_cells hfz).2
    have hm30 := (fault_zero hfz).2.1
    have HFZ := Lib.hid hfz
    rw [hrd] at HRD
    clear hrd hfz
    obtain ⟨kk, hkk⟩ : ∃ kk : Nat, cell % (g.cells.length : Int) = kk := ⟨(cell % (g.cells.length : Int)).toNat, by have := Int.emod_nonneg cell (show (g.cells.length : Int) ≠ 0 by omega); omega⟩
    have hkn : (kk : Int) < g.cells.length := by have := Int.emod_lt_of_pos cell (show (0 : Int) < g.cells.length by omega); omega
    have hkl : kk < g.cells.length := by omega
    have hk4 : cell.tmod (g.cells.length : Int) = kk := by rw [Int.tmod_eq_emod_of_nonneg hc0]; exact hkk
    have hk6 : ¬ ((g.cells.length : Int) = 0) := by omega
    have hk7 : IntKind.i64.wrap (kk : Int) = kk := IntWalk.i64_in _ (by omega)
    have hk8 : IntKind.i64.wrap cell = cell := IntWalk.i64_in _ (by omega)
    have hw1 : IntKind.i64.wrap level = level := IntWalk.i64_in _ (by omega)
    have hw2 : IntKind.i64.wrap less = less := IntWalk.i64_in _ (by omega)
    clear hkk
    go_enter Try.func11, Try.ntmps11
    go_wp2_with fail
    refine (HRD.out).mono ?_
    rintro e w1 ⟨rfl, hb1⟩
    have H1 := Lib.hid (HL0.out.next hb1)
    clear hb1 HRD HL0
    have g0 := (H1.out.gb).at 0 (v := .slice A g.cells.length cp) rfl
    have g1 := (H1.out.gb).at 1 (v := vi g.slo) rfl
    have g2 := (H1.out.gb).at 2 (v := vi g.shi) rfl
    have g3 := (H1.out.gb).at 3 (v := vi g.klo) rfl
    have g4 := (H1.out.gb).at 4 (v := vi g.khi) rfl
    have g5 := (H1.out.gb).at 5 (v := vi g.melt) rfl
    go_wp2_with fail
    refine (lawGround g A cp w1 (by omega) H1.out.hc).mono ?_
    rintro e w2 ⟨A2, c2, rfl, hr2, hb2⟩
    have H2 := Lib.hid (H1.out.next hb2)
    have HR2 := Lib.hid hr2
    clear hr2 hb2 H1 g0 g1 g2 g3 g4 g5 hk4 hk6 hk7 hk8
    go_wp2_with fail
    refine (lawDays days D dp w2 (by omega) H2.out.hd).mono ?_
    rintro e w3 ⟨A4, c4, rfl, hr3, hb3⟩
    have H3 := Lib.hid (H2.out.next hb3)
    have HLS := Lib.hid (least_yes g A2 c2 days A4 c4 kk level w3 (by omega) (by omega) ((HR2.out.below hb3).more hb3.size) hr3 (asked_ok HFZ.out hkl hv0 (by omega)))
    clear hr3 hb3 H2 HR2
    go_wp2_with fail
    refine (HLS.out).mono ?_
    rintro e wv ⟨⟨n, hh, rfl⟩, hb4⟩
    have HL := Lib.hid (H3.out.next hb4)
    obtain ⟨hn0, hk1, hk2, hk3⟩ := least_says HFZ.out hkl hh
    clear hb4 H3 HLS hh
    by_cases hbig : 100000 < n
    · rw [if_pos hbig]
      obtain ⟨pm, hpm⟩ : ∃ pm : Int, pm = 100000 := ⟨_, rfl⟩
      have hpk : keepsB g days kk level pm = false := by rw [hpm]; exact hk3 hbig
      have hp0 : 0 ≤ pm := by omega
      have hp1 : pm ≤ 100000 := by omega
      have HPK := Lib.hid hpk
      have HPM := Lib.hid hpm
      clear hk1 hk2 hk3 hpk hpm
      go_upto_region 16 with fail
      rw [← HPM.out]
      have hpk := HPK.out
      clear HPK HPM
      have hnk := hpk
      obtain ⟨g', hg'⟩ : ∃ g', g' = withPump g kk pm := ⟨_, rfl⟩
      have HG' := Lib.hid hg'
      have hgl : g'.cells.length = g.cells.length := by rw [hg', withPump_len]
      have HGL := Lib.hid hgl
      have hgn : g'.cells.length ≤ 8 := by omega
      have HFG : Hid (faultN g' days = 0) := Lib.hid (by rw [hg']; exact fault_pump HFZ.out kk (by omega) (by omega))
      have HGT : Hid (level < highN (fun j i => (stE true g' days (j + 1)).f i) kk days.length) := Lib.hid (by rw [hg']; exact keeps_no hnk)
      clear hg' hgl hnk hpk
      have g0 := (HL.out.gb).at 0 (v := .slice A g.cells.length cp) rfl
      have g1 := (HL.out.gb).at 1 (v := vi g.slo) rfl
      have g2 := (HL.out.gb).at 2 (v := vi g.shi) rfl
      have g3 := (HL.out.gb).at 3 (v := vi g.klo) rfl
      have g4 := (HL.out.gb).at 4 (v := vi g.khi) rfl
      have g5 := (HL.out.gb).at 5 (v := vi g.melt) rfl
      go_wp2_with fail
      refine (refWith g A cp kk pm wv (by omega) hkl HL.out.hc).mono ?_
      rintro e w3 ⟨A3, cz, rfl, hr3, hb3⟩
      rw [← HG'.out] at hr3 ⊢
      have HP : Hid (Gw w3.heap.size g' A3 cz (w3.alloc (.cells (gndC A3 cz g') 26))) := Lib.hid ⟨Whole.made _ _ _, row_alloc hr3 _⟩
      have HL3 := Lib.hid ((HL.out.next hb3).alloc (.cells (gndC A3 cz g') 26))
      clear hr3 hb3 HL g0 g1 g2 g3 g4 g5
      go_upto_region 17 with fail
      obtain ⟨pb, hpb⟩ : ∃ pb, pb = w3.heap.size := ⟨_, rfl⟩
      obtain ⟨wv, hwv⟩ : ∃ wv, wv = w3.alloc (.cells (gndC A3 cz g') 26) := ⟨_, rfl⟩
      rw [← hwv, ← hpb] at HP ⊢
      rw [← hwv] at HL3
      clear hwv hpb w3
      have HL := HL3
      clear HL3
      have g0 := (HL.out.gb).at 0 (v := .slice A g.cells.length cp) rfl
      have g1 := (HL.out.gb).at 1 (v := vi g.slo) rfl
      have g2 := (HL.out.gb).at 2 (v := vi g.shi) rfl
      have g3 := (HL.out.gb).at 3 (v := vi g.klo) rfl
      have g4 := (HL.out.gb).at 4 (v := vi g.khi) rfl
      have g5 := (HL.out.gb).at 5 (v := vi g.melt) rfl
      have x0 := (HP.out.gb).at 0 (v := .slice A3 g'.cells.length cz) rfl
      have x1 := (HP.out.gb).at 1 (v := vi g'.slo) rfl
      have x2 := (HP.out.gb).at 2 (v := vi g'.shi) rfl
      have x3 := (HP.out.gb).at 3 (v := vi g'.klo) rfl
      have x4 := (HP.out.gb).at 4 (v := vi g'.khi) rfl
      have x5 := (HP.out.gb).at 5 (v := vi g'.melt) rfl
      refine wp_words (by kernel_rfl) (region_told 17 (by kernel_rfl) (by kernel_rfl) (fun W => Below wv.heap.size wv W) newer (pickD [vIs (gndV A3 cz g'), vGn g', vIs (.slice D days.length dp), vDy days, vIs (gndV A cp g), vIs (.slice D days.length dp), vTruth 0 true g days, vTruth 0 true g days, vRunE true g' days, vRunE true g' days, vT1 g'.cells.length days.length (fun j i => (stE true g' days (j + 1)).f i), vLf days.length, vIs (vi (stE true g' days days.length).snow), vIs (vi 0), vT1 g'.cells.length days.length (fun j i => (stE true g' days (j + 1)).f i), vLf days.length, vIs (vi (stE true g' days days.length).snow)]) (fun h k => newer_trans h k) (pickD_stable _ ⟨vIs_st, vGn_st, vIs_st, vDy_st, vIs_st, vIs_st, vTruth_st, vTruth_st, vRunE_st, vRunE_st, vT1_st, vLf_st, vIs_st, vIs_st, vT1_st, vLf_st, vIs_st, trivial⟩) (Below.refl _ wv).drew (Below.refl _ _) ?_ ?_)
      · refine ⟨?_, ?_, ?_, ?_, ?_, ?_, ?_, ?_, ?_, ?_, ?_, ?_, ?_, ?_, ?_, ?_, ?_, trivial⟩
        · intro a W hG hR hO hp
          have h22 := hO.slot 22 (by kernel_rfl)
          have c0 := keep_cell x0 hG
          have c1 := keep_cell x1 hG
          have c2 := keep_cell x2 hG
          have c3 := keep_cell x3 hG
          have c4 := keep_cell x4 hG
          have c5 := keep_cell x5 hG
          refine wp_yields (v := gndV A3 cz g') ?_ ⟨_, rfl, rfl, Below.refl _ _, hG⟩
          simp [slotOf] at h22
          simp [execOp, go_sem, h22, c0, c1, c2, c3, c4, c5]
        · intro a W hG hR hO hp
          have h108 : slotOf a 108 = gndV A3 cz g' := hp.1
          refine wp_enters (f := 19) (args := #[gndV A3 cz g']) ?_ ((lawGround g' A3 cz W (by omega) (HP.out.next hG).hc).mono ?_)
          · simp [slotOf] at h108
            simp [go_sem, h108]
          · rintro e w' ⟨Ax, cx, rfl, h2, hb⟩
            exact ⟨_, rfl, _, rfl, ⟨Ax, cx, rfl, h2⟩, hb, below_next hG hb⟩
        · intro a W hG hR hO hp
          have h1 := hO.slot 1 (by kernel_rfl)
          refine wp_yields (v := .slice D days.length dp) ?_ ⟨_, rfl, rfl, Below.refl _ _, hG⟩
          simp [slotOf] at h1
          simp [execOp, go_sem, h1]
        · intro a W hG hR hO hp
          have h110 : slotOf a 110 = .slice D days.length dp := hp.1
          refine wp_enters (f := 20) (args := #[.slice D days.length dp]) ?_ ((lawDays days D dp W (by omega) (HL.out.next hG).hd).mono ?_)
          · simp [slotOf] at h110
            simp [go_sem, h110]
          · rintro e w' ⟨Ax, cx, rfl, h2, hb⟩
            exact ⟨_, rfl, _, rfl, ⟨Ax, cx, rfl, h2⟩, hb, below_next hG hb⟩
        · intro a W hG hR hO hp
          have h6 := hO.slot 6 (by kernel_rfl)
          have c0 := keep_cell g0 hG
          have c1 := keep_cell g1 hG
          have c2 := keep_cell g2 hG
          have c3 := keep_cell g3 hG
          have c4 := keep_cell g4 hG
          have c5 := keep_cell g5 hG
          refine wp_yields (v := gndV A cp g) ?_ ⟨_, rfl, rfl, Below.refl _ _, hG⟩
          simp [slotOf] at h6
          simp [execOp, go_sem, h6, c0, c1, c2, c3, c4, c5]
        · intro a W hG hR hO hp
          have h1 := hO.slot 1 (by kernel_rfl)
          refine wp_yields (v := .slice D days.length dp) ?_ ⟨_, rfl, rfl, Below.refl _ _, hG⟩
          simp [slotOf] at h1
          simp [execOp, go_sem, h1]
        · intro a W hG hR hO hp
          have h112 : slotOf a 112 = gndV A cp g := hp.1
          have h113 : slotOf a 113 = .slice D days.length dp := hp.2.1
          refine wp_enters (f := 23) (args := #[gndV A cp g, .slice D days.length dp, .bool true]) ?_ ((refEnds true g A cp days D dp W (by omega) (by omega) (HL.out.next hG).hc (HL.out.next hG).hd).mono ?_)
          · simp [slotOf] at h112 h113
            simp [go_sem, h112, h113]
          · rintro e w' ⟨L, lp, R, rp, rfl, h2, h3, hb, h4, h5⟩
            exact ⟨_, rfl, _, rfl, ⟨L, lp, R, rp, rfl, h2, h3, fun _ _ => Nat.zero_le _, fun _ _ => Nat.zero_le _⟩, hb, below_next hG hb⟩
        · intro a W hG hR hO hp
          have h114 := hp.1
          obtain ⟨L, lp, R, rp, h114, h1, h2, -, -⟩ := h114
          refine wp_enters (f := 33) (args := #[truthV (endOf true g.slo g.shi) (endOf true g.klo g.khi) L g.cells.length lp R days.length rp]) ?_ ((lawTruthE true g days L lp R rp W (by omega) (by omega) h1 h2).mono ?_)
          · simp [slotOf] at h114
            simp [go_sem, h114]
          · rintro e w' ⟨⟨vx, rfl, hv⟩, hb⟩
            exact ⟨_, rfl, _, rfl, hv, hb, below_next hG hb⟩
        · intro a W hG hR hO hp
          have h109 := hp.1
          have h111 := hp.2.1
          have h115 := hp.2.2.1
          obtain ⟨Ag, cg, h109, hrg⟩ := h109
          obtain ⟨Ad, cd, h111, hrd⟩ := h111
          obtain ⟨L, lp, R, rp, h115, h1, h2, -, -⟩ := h115
          have hrun := run_ends_pump true g kk pm Ag cg days Ad cd L lp R rp W (by omega) (by omega) (by rw [← HG'.out]; exact HFG.out) (by rw [← HG'.out]; exact hrg) hrd h1 h2
          rw [← HG'.out] at hrun
          refine wp_enters (f := 32) (args := #[gndV Ag cg g', .slice Ad days.length cd, truthV (endOf true g.slo g.shi) (endOf true g.klo g.khi) L g.cells.length lp R days.length rp]) ?_ (hrun.mono ?_)
          · simp [slotOf] at h109 h111 h115
            simp [go_sem, h109, h111, h115]
          · rintro e w' ⟨⟨vx, rfl, hv⟩, hb⟩
            exact ⟨_, rfl, _, rfl, hv, hb, below_next hG hb⟩
        · intro a W hG hR hO hp
          have h116 := hp.1
          obtain ⟨v1, v2, h116, hv1, hv2⟩ := h116
          refine wp_yields (v := .tuple #[v1, v2, vi (stE true g' days days.length).snow, vi 0]) ?_ ⟨_, rfl, ⟨v1, v2, rfl, hv1, hv2⟩, Below.refl _ _, hG⟩
          simp [slotOf] at h116
          simp [execOp, go_sem, h116]
        · intro a W hG hR hO hp
          have h107 := hp.1
          obtain ⟨v1, v2, h107, hv1, hv2⟩ := h107
          refine wp_yields (v := v1) ?_ ⟨_, rfl, hv1, Below.refl _ _, hG⟩
          simp [slotOf] at h107
          simp [execOp, go_sem, h107]
        · intro a W hG hR hO hp
          have h107 := hp.1
          obtain ⟨v1, v2, h107, hv1, hv2⟩ := h107
          refine wp_yields (v := v2) ?_ ⟨_, rfl, hv2, Below.refl _ _, hG⟩
          simp [slotOf] at h107
          simp [execOp, go_sem, h107]
        · intro a W hG hR hO hp
          have h107 := hp.1
          obtain ⟨v1, v2, h107, hv1, hv2⟩ := h107
          refine wp_yields (v := vi (stE true g' days days.length).snow) ?_ ⟨_, rfl, rfl, Below.refl _ _, hG⟩
          simp [slotOf] at h107
          simp [execOp, go_sem, h107]
        · intro a W hG hR hO hp
          have h107 := hp.1
          obtain ⟨v1, v2, h107, hv1, hv2⟩ := h107
          refine wp_yields (v := vi 0) ?_ ⟨_, rfl, rfl, Below.refl _ _, hG⟩
          simp [slotOf] at h107
          simp [execOp, go_sem, h107]
        · intro a W hG hR hO hp
          have h117 := hp.1
          obtain ⟨Qx, cqx, Ax, cx, bx, h117, hq1, hq2⟩ := h117
          refine wp_yields (v := .slice Qx days.length cqx) ?_ ⟨_, rfl, ⟨Qx, cqx, Ax, cx, bx, rfl, hq1, hq2⟩, Below.refl _ _, hG⟩
          simp [slotOf] at h117
          simp [execOp, go_sem, h117]
        · intro a W hG hR hO hp
          have h118 := hp.1
          obtain ⟨sl, Qx, cqx, bx, h118, hq1⟩ := h118
          refine wp_yields (v := .slice Qx days.length cqx) ?_ ⟨_, rfl, ⟨sl, Qx, cqx, bx, rfl, hq1⟩, Below.refl _ _, hG⟩
          simp [slotOf] at h118
          simp [execOp, go_sem, h118]
        · intro a W hG hR hO hp
          have h119 : slotOf a 119 = vi (stE true g' days days.length).snow := hp.1
          refine wp_yields (v := vi (stE true g' days days.length).snow) ?_ ⟨_, rfl, rfl, Below.refl _ _, hG⟩
          simp [slotOf] at h119
          simp [execOp, go_sem, h119]
      · intro W hG hR
        rintro _ rfl _ ⟨_, _, rfl, -⟩ _ rfl _ ⟨_, _, rfl, -⟩ _ rfl _ rfl _ ⟨_, _, _, _, rfl, -, -, -, -⟩ _ ⟨_, _, _, _, rfl, -, -, -, -⟩ _ ⟨_, _, rfl, -, -⟩ _ ⟨_, _, rfl, -, -⟩ _ ⟨_, _, _, _, _, rfl, -, -⟩ _ ⟨_, _, _, _, rfl, -⟩ _ rfl _ rfl _ ⟨Q1, cq1, Af1, cf1, bs1, rfl, hT1, hR1⟩ _ ⟨_, _, _, _, rfl, -⟩ _ rfl
        change wpList _ _ _ _ _ _
        simp only [Act.put, List.setIfInBounds_toArray, List.set_cons_zero, List.set_cons_succ, List.drop_succ_cons, List.drop_zero]
        have HL' := Lib.hid (HL.out.next hG)
        have HX1 : Hid (vT1 g.cells.length days.length (fun j i => (stE true g' days (j + 1)).f i) (.slice Q1 days.length cq1) W) := Lib.hid (by rw [← HGL.out]; exact ⟨Q1, cq1, Af1, cf1, bs1, rfl, hT1, hR1⟩)
        clear hG hR hT1 hR1 HL HP g0 g1 g2 g3 g4 g5 x0 x1 x2 x3 x4 x5
        obtain ⟨wv, hwv⟩ : ∃ wv, wv = W := ⟨_, rfl⟩
        rw [← hwv] at HL' HX1 ⊢
        clear hwv W
        obtain ⟨hh, hhh⟩ : ∃ hh, hh = highN (fun j i => (stE true g' days (j + 1)).f i) kk days.length := ⟨_, rfl⟩
        have HHI := Lib.hid (highest_any kk wv (by omega) hkl HX1.out)
        have hgt := HGT.out
        rw [← hhh] at HHI hgt
        clear hhh HGT
        go_wp2_with fail
        refine (HHI.out).mono ?_
        rintro e w5 ⟨rfl, hb5⟩
        have HL5 := Lib.hid (HL'.out.next hb5)
        clear hb5 HL' HHI HX1
        go_wp2_with fail
        refine (wakes_any _).mono ?_
        rintro e w8 ⟨rfl, hb8⟩
        have HF := Lib.hid (HL5.out.next hb8).below
        clear hb8
        go_wp2_with fail
        go_ret
        exact ⟨rfl, HF.out⟩
    · rw [if_neg hbig]
      have hnb : ¬ (100000 < n) := hbig
      have hkp := hk1 (by omega)
      have HK2 := Lib.hid hk2
      have hn1' : n ≤ 100000 := by omega
      obtain ⟨g', hg'⟩ : ∃ g', g' = withPump g kk n := ⟨_, rfl⟩
      have HG' := Lib.hid hg'
      have hgl : g'.cells.length = g.cells.length := by rw [hg', withPump_len]
      have HGL := Lib.hid hgl
      have hgn : g'.cells.length ≤ 8 := by omega
      have HFG : Hid (faultN g' days = 0) := Lib.hid (by rw [hg']; exact fault_pump HFZ.out kk hn0 hn1')
      have HKP : Hid (∀ k, k < days.length → (stE true g' days (k + 1)).f kk ≤ level) := Lib.hid (by rw [hg']; exact keeps_yes hkp)
      clear hg' hgl hkp hk1 hk2 hk3 hbig
      have hnn : ¬ (n < 0) := by omega
      have g0 := (HL.out.gb).at 0 (v := .slice A g.cells.length cp) rfl
      have g1 := (HL.out.gb).at 1 (v := vi g.slo) rfl
      have g2 := (HL.out.gb).at 2 (v := vi g.shi) rfl
      have g3 := (HL.out.gb).at 3 (v := vi g.klo) rfl
      have g4 := (HL.out.gb).at 4 (v := vi g.khi) rfl
      have g5 := (HL.out.gb).at 5 (v := vi g.melt) rfl
      go_wp2_with fail
      refine (refWith g A cp kk n wv (by omega) hkl HL.out.hc).mono ?_
      rintro e w3 ⟨A3, cz, rfl, hr3, hb3⟩
      rw [← HG'.out] at hr3 ⊢
      have HP : Hid (Gw w3.heap.size g' A3 cz (w3.alloc (.cells (gndC A3 cz g') 26))) := Lib.hid ⟨Whole.made _ _ _, row_alloc hr3 _⟩
      have HL3 := Lib.hid ((HL.out.next hb3).alloc (.cells (gndC A3 cz g') 26))
      clear hr3 hb3 HL g0 g1 g2 g3 g4 g5
      go_upto_region 10 with fail
      obtain ⟨pb, hpb⟩ : ∃ pb, pb = w3.heap.size := ⟨_, rfl⟩
      obtain ⟨wv, hwv⟩ : ∃ wv, wv = w3.alloc (.cells (gndC A3 cz g') 26) := ⟨_, rfl⟩
      rw [← hwv, ← hpb] at HP ⊢
      rw [← hwv] at HL3
      clear hwv hpb w3
      have HL := HL3
      clear HL3
      have g0 := (HL.out.gb).at 0 (v := .slice A g.cells.length cp) rfl
      have g1 := (HL.out.gb).at 1 (v := vi g.slo) rfl
      have g2 := (HL.out.gb).at 2 (v := vi g.shi) rfl
      have g3 := (HL.out.gb).at 3 (v := vi g.klo) rfl
      have g4 := (HL.out.gb).at 4 (v := vi g.khi) rfl
      have g5 := (HL.out.gb).at 5 (v := vi g.melt) rfl
      have x0 := (HP.out.gb).at 0 (v := .slice A3 g'.cells.length cz) rfl
      have x1 := (HP.out.gb).at 1 (v := vi g'.slo) rfl
      have x2 := (HP.out.gb).at 2 (v := vi g'.shi) rfl
      have x3 := (HP.out.gb).at 3 (v := vi g'.klo) rfl
      have x4 := (HP.out.gb).at 4 (v := vi g'.khi) rfl
      have x5 := (HP.out.gb).at 5 (v := vi g'.melt) rfl
      refine wp_words (by kernel_rfl) (region_told 18 (by kernel_rfl) (by kernel_rfl) (fun W => Below wv.heap.size wv W) newer (pickD [vIs (gndV A3 cz g'), vGn g', vIs (.slice D days.length dp), vDy days, vIs (gndV A cp g), vIs (.slice D days.length dp), vIs (.slice V ws.length vp), vTrF g days, vTrF g days, vRunF g' days, vRunF g' days, vLvF g' days, vLf days.length, vSnF g' days, vIs (vi 0), vLvF g' days, vLf days.length, vSnF g' days]) (fun h k => newer_trans h k) (pickD_stable _ ⟨vIs_st, vGn_st, vIs_st, vDy_st, vIs_st, vIs_st, vIs_st, vTrF_st, vTrF_st, vRunF_st, vRunF_st, vLvF_st, vLf_st, vSnF_st, vIs_st, vLvF_st, vLf_st, vSnF_st, trivial⟩) (Below.refl _ wv).drew (Below.refl _ _) ?_ ?_)
      · refine ⟨?_, ?_, ?_, ?_, ?_, ?_, ?_, ?_, ?_, ?_, ?_, ?_, ?_, ?_, ?_, ?_, ?_, ?_, trivial⟩
        · intro a W hG hR hO hp
          have h17 := hO.slot 17 (by kernel_rfl)
          have c0 := keep_cell x0 hG
          have c1 := keep_cell x1 hG
          have c2 := keep_cell x2 hG
          have c3 := keep_cell x3 hG
          have c4 := keep_cell x4 hG
          have c5 := keep_cell x5 hG
          refine wp_yields (v := gndV A3 cz g') ?_ ⟨_, rfl, rfl, Below.refl _ _, hG⟩
          simp [slotOf] at h17
          simp [execOp, go_sem, h17, c0, c1, c2, c3, c4, c5]
        · intro a W hG hR hO hp
          have h70 : slotOf a 70 = gndV A3 cz g' := hp.1
          refine wp_enters (f := 19) (args := #[gndV A3 cz g']) ?_ ((lawGround g' A3 cz W (by omega) (HP.out.next hG).hc).mono ?_)
          · simp [slotOf] at h70
            simp [go_sem, h70]
          · rintro e w' ⟨Ax, cx, rfl, h2, hb⟩
            exact ⟨_, rfl, _, rfl, ⟨Ax, cx, rfl, h2⟩, hb, below_next hG hb⟩
        · intro a W hG hR hO hp
          have h1 := hO.slot 1 (by kernel_rfl)
          refine wp_yields (v := .slice D days.length dp) ?_ ⟨_, rfl, rfl, Below.refl _ _, hG⟩
          simp [slotOf] at h1
          simp [execOp, go_sem, h1]
        · intro a W hG hR hO hp
          have h72 : slotOf a 72 = .slice D days.length dp := hp.1
          refine wp_enters (f := 20) (args := #[.slice D days.length dp]) ?_ ((lawDays days D dp W (by omega) (HL.out.next hG).hd).mono ?_)
          · simp [slotOf] at h72
            simp [go_sem, h72]
          · rintro e w' ⟨Ax, cx, rfl, h2, hb⟩
            exact ⟨_, rfl, _, rfl, ⟨Ax, cx, rfl, h2⟩, hb, below_next hG hb⟩
        · intro a W hG hR hO hp
          have h6 := hO.slot 6 (by kernel_rfl)
          have c0 := keep_cell g0 hG
          have c1 := keep_cell g1 hG
          have c2 := keep_cell g2 hG
          have c3 := keep_cell g3 hG
          have c4 := keep_cell g4 hG
          have c5 := keep_cell g5 hG
          refine wp_yields (v := gndV A cp g) ?_ ⟨_, rfl, rfl, Below.refl _ _, hG⟩
          simp [slotOf] at h6
          simp [execOp, go_sem, h6, c0, c1, c2, c3, c4, c5]
        · intro a W hG hR hO hp
          have h1 := hO.slot 1 (by kernel_rfl)
          refine wp_yields (v := .slice D days.length dp) ?_ ⟨_, rfl, rfl, Below.refl _ _, hG⟩
          simp [slotOf] at h1
          simp [execOp, go_sem, h1]
        · intro a W hG hR hO hp
          have h2 := hO.slot 2 (by kernel_rfl)
          refine wp_yields (v := .slice V ws.length vp) ?_ ⟨_, rfl, rfl, Below.refl _ _, hG⟩
          simp [slotOf] at h2
          simp [execOp, go_sem, h2]
        · intro a W hG hR hO hp
          have h74 : slotOf a 74 = gndV A cp g := hp.1
          have h75 : slotOf a 75 = .slice D days.length dp := hp.2.1
          have h76 : slotOf a 76 = .slice V ws.length vp := hp.2.2.1
          refine wp_enters (f := 37) (args := #[gndV A cp g, .slice D days.length dp, .slice V ws.length vp]) ?_ ((picked_any g A cp days D dp ws V vp W HFZ.out hlws (HL.out.next hG).hc (HL.out.next hG).hd ((HVws.out.below (HL.out.next hG).below).more (HL.out.next hG).below.size)).mono ?_)
          · simp [slotOf] at h74 h75 h76
            simp [go_sem, h74, h75, h76]
          · rintro e w' ⟨⟨sn, so, lv, rn, v, rfl, hv, hfit⟩, hb⟩
            exact ⟨_, rfl, _, rfl, ⟨sn, so, lv, rn, hv, hfit⟩, hb, below_next hG hb⟩
        · intro a W hG hR hO hp
          have h77 := hp.1
          obtain ⟨sn, so, lv, rn, ⟨L, lp, R, rp, h77, h1, h2⟩, hfit⟩ := h77
          have hlen := fits_len hfit
          refine wp_enters (f := 33) (args := #[truthV sn so L lv.length lp R rn.length rp]) ?_ ((lawTruth sn so lv rn L lp R rp W (by omega) (by omega) h1 h2).mono ?_)
          · simp [slotOf] at h77
            simp [go_sem, h77]
          · rintro e w' ⟨⟨vx, rfl, hv⟩, hb⟩
            exact ⟨_, rfl, _, rfl, ⟨sn, so, lv, rn, hv, hfit⟩, hb, below_next hG hb⟩
        · intro a W hG hR hO hp
          have h71 := hp.1
          have h73 := hp.2.1
          have h78 := hp.2.2.1
          obtain ⟨Ag, cg, h71, hrg⟩ := h71
          obtain ⟨Ad, cd, h73, hrd⟩ := h73
          obtain ⟨sn, so, lv, rn, ⟨L, lp, R, rp, h78, h1, h2⟩, hfit⟩ := h78
          have hlen := fits_len hfit
          have hfit2 : fitsB g' days sn so lv rn = true := by rw [HG'.out]; exact pump_fit kk n hfit
          refine wp_enters (f := 32) (args := #[gndV Ag cg g', .slice Ad days.length cd, truthV sn so L lv.length lp R rn.length rp]) ?_ ((run_yes g' Ag cg days Ad cd sn so lv L lp rn R rp W (by omega) (by omega) (by omega) (by omega) hrg hrd h1 h2 (runN_ok HFG.out hfit2)).mono ?_)
          · simp [slotOf] at h71 h73 h78
            simp [go_sem, h71, h73, h78]
          · rintro e w' ⟨⟨vx, rfl, hv⟩, hb⟩
            exact ⟨_, rfl, _, rfl, vRunF_of HFG.out hfit2 hv, hb, below_next hG hb⟩
        · intro a W hG hR hO hp
          have h79 := hp.1
          obtain ⟨v1, v2, v3, h79, hv1, hv2, hv3⟩ := h79
          refine wp_yields (v := .tuple #[v1, v2, v3, vi 0]) ?_ ⟨_, rfl, ⟨v1, v2, v3, rfl, hv1, hv2, hv3⟩, Below.refl _ _, hG⟩
          simp [slotOf] at h79
          simp [execOp, go_sem, h79]
        · intro a W hG hR hO hp
          have h69 := hp.1
          obtain ⟨v1, v2, v3, h69, hv1, hv2, hv3⟩ := h69
          refine wp_yields (v := v1) ?_ ⟨_, rfl, hv1, Below.refl _ _, hG⟩
          simp [slotOf] at h69
          simp [execOp, go_sem, h69]
        · intro a W hG hR hO hp
          have h69 := hp.1
          obtain ⟨v1, v2, v3, h69, hv1, hv2, hv3⟩ := h69
          refine wp_yields (v := v2) ?_ ⟨_, rfl, hv2, Below.refl _ _, hG⟩
          simp [slotOf] at h69
          simp [execOp, go_sem, h69]
        · intro a W hG hR hO hp
          have h69 := hp.1
          obtain ⟨v1, v2, v3, h69, hv1, hv2, hv3⟩ := h69
          refine wp_yields (v := v3) ?_ ⟨_, rfl, hv3, Below.refl _ _, hG⟩
          simp [slotOf] at h69
          simp [execOp, go_sem, h69]
        · intro a W hG hR hO hp
          have h69 := hp.1
          obtain ⟨v1, v2, v3, h69, hv1, hv2, hv3⟩ := h69
          refine wp_yields (v := vi 0) ?_ ⟨_, rfl, rfl, Below.refl _ _, hG⟩
          simp [slotOf] at h69
          simp [execOp, go_sem, h69]
        · intro a W hG hR hO hp
          have h80 := hp.1
          obtain ⟨f, ⟨Qx, cqx, Ax, cx, bx, h80, hq1, hq2⟩, hq3⟩ := h80
          refine wp_yields (v := .slice Qx days.length cqx) ?_ ⟨_, rfl, ⟨f, ⟨Qx, cqx, Ax, cx, bx, rfl, hq1, hq2⟩, hq3⟩, Below.refl _ _, hG⟩
          simp [slotOf] at h80
          simp [execOp, go_sem, h80]
        · intro a W hG hR hO hp
          have h81 := hp.1
          obtain ⟨sl, Qx, cqx, bx, h81, hq1⟩ := h81
          refine wp_yields (v := .slice Qx days.length cqx) ?_ ⟨_, rfl, ⟨sl, Qx, cqx, bx, rfl, hq1⟩, Below.refl _ _, hG⟩
          simp [slotOf] at h81
          simp [execOp, go_sem, h81]
        · intro a W hG hR hO hp
          have h82 := hp.1
          obtain ⟨s, h82, hs⟩ := h82
          refine wp_yields (v := vi s) ?_ ⟨_, rfl, ⟨s, rfl, hs⟩, Below.refl _ _, hG⟩
          simp [slotOf] at h82
          simp [execOp, go_sem, h82]
      · intro W hG hR
        rintro _ rfl _ ⟨_, _, rfl, -⟩ _ rfl _ ⟨_, _, rfl, -⟩ _ rfl _ rfl _ rfl _ ⟨_, _, _, _, ⟨_, _, _, _, rfl, -, -⟩, -⟩ _ ⟨_, _, _, _, ⟨_, _, _, _, rfl, -, -⟩, -⟩ _ ⟨_, _, _, rfl, -, -, -⟩ _ ⟨_, _, _, rfl, -, -, -⟩ _ ⟨_, ⟨_, _, _, _, _, rfl, -, -⟩, -⟩ _ ⟨_, _, _, _, rfl, -⟩ _ ⟨_, rfl, -⟩ _ rfl _ ⟨fl, ⟨Q1, cq1, Af1, cf1, bs1, rfl, hT1, hR1⟩, hB1⟩ _ ⟨_, _, _, _, rfl, -⟩ _ ⟨_, rfl, -⟩
        change wpList _ _ _ _ _ _
        simp only [Act.put, List.setIfInBounds_toArray, List.set_cons_zero, List.set_cons_succ, List.drop_succ_cons, List.drop_zero]
        have HL' := Lib.hid (HL.out.next hG)
        have hB1' : ∀ k, k < days.length → fl k kk ≤ level := fun k hk => Int.le_trans (hB1 k kk hk (by rw [HGL.out]; exact hkl)).2 (HKP.out k hk)
        have HX1 : Hid (vT1 g.cells.length days.length fl (.slice Q1 days.length cq1) W) := Lib.hid (by rw [← HGL.out]; exact ⟨Q1, cq1, Af1, cf1, bs1, rfl, hT1, hR1⟩)
        have hle := highN_le (f := fl) (c := kk) (L := level) (by omega) days.length hB1'
        clear hG hR hT1 hR1 hB1 hB1' HL HP HKP HFG HGL HG' hgn g0 g1 g2 g3 g4 g5 x0 x1 x2 x3 x4 x5
        obtain ⟨wv, hwv⟩ : ∃ wv, wv = W := ⟨_, rfl⟩
        rw [← hwv] at HL' HX1 ⊢
        clear hwv W
        obtain ⟨hh, hhh⟩ : ∃ hh, hh = highN fl kk days.length := ⟨_, rfl⟩
        have HHI := Lib.hid (highest_any kk wv (by omega) hkl HX1.out)
        rw [← hhh] at HHI hle
        have hle' : ¬ (level < hh) := by omega
        clear hhh hle
        go_wp2_with fail
        refine (HHI.out).mono ?_
        rintro e w5 ⟨rfl, hb5⟩
        have HL5 := Lib.hid (HL'.out.next hb5)
        clear hb5 HL' HHI HX1
        by_cases hz : n = 0
        · subst hz
          go_wp2_with fail
          refine (wakes_any _).mono ?_
          rintro e w8 ⟨rfl, hb8⟩
          have HF := Lib.hid (HL5.out.next hb8).below
          clear hb8
          go_wp2_with fail
          go_ret
          exact ⟨rfl, HF.out⟩
        · have hk2 := HK2.out hn1' hz
          have hw3 : IntKind.i64.wrap (n - 1) = n - 1 := IntWalk.i64_in _ (by omega)
          have hw4 : IntKind.i64.wrap (n - 1 - less) = n - 1 - less := IntWalk.i64_in _ (by omega)
          have hzb : (n == 0) = false := by simpa using hz
          obtain ⟨pm, hpm⟩ : ∃ pm : Int, pm = mx 0 (n - 1 - less) := ⟨_, rfl⟩
          have hmx := mx_ge 0 (n - 1 - less)
          rw [← hpm] at hmx
          have hp0 : 0 ≤ pm := by omega
          have hp1 : pm ≤ 100000 := by omega
          have hpk : keepsB g days kk level pm = false := keeps_less HFZ.out hkl (q := n - 1) hp0 (by omega) (by omega) hk2
          have HPK := Lib.hid hpk
          have HPM := Lib.hid hpm
          clear hk2 hpk hpm hmx HK2
          by_cases hs : 0 < n - 1 - less
          · go_upto_region 16 with fail
            have hpm := HPM.out
            unfold mx at hpm
            rw [if_pos (by omega)] at hpm
            rw [← hpm]
            have hpk := HPK.out
            clear HPK HPM hpm hs hw3 hw4 hz hzb hnn hnb
            have HL := HL5
            clear HL5
            obtain ⟨wv, hwv⟩ : ∃ wv, wv = w5 := ⟨_, rfl⟩
            rw [← hwv] at HL ⊢
            clear hwv
            have hnk := hpk
            obtain ⟨g', hg'⟩ : ∃ g', g' = withPump g kk pm := ⟨_, rfl⟩
            have HG' := Lib.hid hg'
            have hgl : g'.cells.length = g.cells.length := by rw [hg', withPump_len]
            have HGL := Lib.hid hgl
            have hgn : g'.cells.length ≤ 8 := by omega
            have HFG : Hid (faultN g' days = 0) := Lib.hid (by rw [hg']; exact fault_pump HFZ.out kk (by omega) (by omega))
            have HGT : Hid (level < highN (fun j i => (stE true g' days (j + 1)).f i) kk days.length) := Lib.hid (by rw [hg']; exact keeps_no hnk)
            clear hg' hgl hnk hpk
            have g0 := (HL.out.gb).at 0 (v := .slice A g.cells.length cp) rfl
            have g1 := (HL.out.gb).at 1 (v := vi g.slo) rfl
            have g2 := (HL.out.gb).at 2 (v := vi g.shi) rfl
            have g3 := (HL.out.gb).at 3 (v := vi g.klo) rfl
            have g4 := (HL.out.gb).at 4 (v := vi g.khi) rfl
            have g5 := (HL.out.gb).at 5 (v := vi g.melt) rfl
            go_wp2_with fail
            refine (refWith g A cp kk pm wv (by omega) hkl HL.out.hc).mono ?_
            rintro e w3 ⟨A3, cz, rfl, hr3, hb3⟩
            rw [← HG'.out] at hr3 ⊢
            have HP : Hid (Gw w3.heap.size g' A3 cz (w3.alloc (.cells (gndC A3 cz g') 26))) := Lib.hid ⟨Whole.made _ _ _, row_alloc hr3 _⟩
            have HL3 := Lib.hid ((HL.out.next hb3).alloc (.cells (gndC A3 cz g') 26))
            clear hr3 hb3 HL g0 g1 g2 g3 g4 g5
            go_upto_region 17 with fail
            obtain ⟨pb, hpb⟩ : ∃ pb, pb = w3.heap.size := ⟨_, rfl⟩
            obtain ⟨wv, hwv⟩ : ∃ wv, wv = w3.alloc (.cells (gndC A3 cz g') 26) := ⟨_, rfl⟩
            rw [← hwv, ← hpb] at HP ⊢
            rw [← hwv] at HL3
            clear hwv hpb w3
            have HL := HL3
            clear HL3
            have g0 := (HL.out.gb).at 0 (v := .slice A g.cells.length cp) rfl
            have g1 := (HL.out.gb).at 1 (v := vi g.slo) rfl
            have g2 := (HL.out.gb).at 2 (v := vi g.shi) rfl
            have g3 := (HL.out.gb).at 3 (v := vi g.klo) rfl
            have g4 := (HL.out.gb).at 4 (v := vi g.khi) rfl
            have g5 := (HL.out.gb).at 5 (v := vi g.melt) rfl
            have x0 := (HP.out.gb).at 0 (v := .slice A3 g'.cells.length cz) rfl
            have x1 := (HP.out.gb).at 1 (v := vi g'.slo) rfl
            have x2 := (HP.out.gb).at 2 (v := vi g'.shi) rfl
            have x3 := (HP.out.gb).at 3 (v := vi g'.klo) rfl
            have x4 := (HP.out.gb).at 4 (v := vi g'.khi) rfl
            have x5 := (HP.out.gb).at 5 (v := vi g'.melt) rfl
            refine wp_words (by kernel_rfl) (region_told 17 (by kernel_rfl) (by kernel_rfl) (fun W => Below wv.heap.size wv W) newer (pickD [vIs (gndV A3 cz g'), vGn g', vIs (.slice D days.length dp), vDy days, vIs (gndV A cp g), vIs (.slice D days.length dp), vTruth 0 true g days, vTruth 0 true g days, vRunE true g' days, vRunE true g' days, vT1 g'.cells.length days.length (fun j i => (stE true g' days (j + 1)).f i), vLf days.length, vIs (vi (stE true g' days days.length).snow), vIs (vi 0), vT1 g'.cells.length days.length (fun j i => (stE true g' days (j + 1)).f i), vLf days.length, vIs (vi (stE true g' days days.length).snow)]) (fun h k => newer_trans h k) (pickD_stable _ ⟨vIs_st, vGn_st, vIs_st, vDy_st, vIs_st, vIs_st, vTruth_st, vTruth_st, vRunE_st, vRunE_st, vT1_st, vLf_st, vIs_st, vIs_st, vT1_st, vLf_st, vIs_st, trivial⟩) (Below.refl _ wv).drew (Below.refl _ _) ?_ ?_)
            · refine ⟨?_, ?_, ?_, ?_, ?_, ?_, ?_, ?_, ?_, ?_, ?_, ?_, ?_, ?_, ?_, ?_, ?_, trivial⟩
              · intro a W hG hR hO hp
                have h22 := hO.slot 22 (by kernel_rfl)
                have c0 := keep_cell x0 hG
                have c1 := keep_cell x1 hG
                have c2 := keep_cell x2 hG
                have c3 := keep_cell x3 hG
                have c4 := keep_cell x4 hG
                have c5 := keep_cell x5 hG
                refine wp_yields (v := gndV A3 cz g') ?_ ⟨_, rfl, rfl, Below.refl _ _, hG⟩
                simp [slotOf] at h22
                simp [execOp, go_sem, h22, c0, c1, c2, c3, c4, c5]
              · intro a W hG hR hO hp
                have h108 : slotOf a 108 = gndV A3 cz g' := hp.1
                refine wp_enters (f := 19) (args := #[gndV A3 cz g']) ?_ ((lawGround g' A3 cz W (by omega) (HP.out.next hG).hc).mono ?_)
                · simp [slotOf] at h108
                  simp [go_sem, h108]
                · rintro e w' ⟨Ax, cx, rfl, h2, hb⟩
                  exact ⟨_, rfl, _, rfl, ⟨Ax, cx, rfl, h2⟩, hb, below_next hG hb⟩
              · intro a W hG hR hO hp
                have h1 := hO.slot 1 (by kernel_rfl)
                refine wp_yields (v := .slice D days.length dp) ?_ ⟨_, rfl, rfl, Below.refl _ _, hG⟩
                simp [slotOf] at h1
                simp [execOp, go_sem, h1]
              · intro a W hG hR hO hp
                have h110 : slotOf a 110 = .slice D days.length dp := hp.1
                refine wp_enters (f := 20) (args := #[.slice D days.length dp]) ?_ ((lawDays days D dp W (by omega) (HL.out.next hG).hd).mono ?_)
                · simp [slotOf] at h110
                  simp [go_sem, h110]
                · rintro e w' ⟨Ax, cx, rfl, h2, hb⟩
                  exact ⟨_, rfl, _, rfl, ⟨Ax, cx, rfl, h2⟩, hb, below_next hG hb⟩
              · intro a W hG hR hO hp
                have h6 := hO.slot 6 (by kernel_rfl)
                have c0 := keep_cell g0 hG
                have c1 := keep_cell g1 hG
                have c2 := keep_cell g2 hG
                have c3 := keep_cell g3 hG
                have c4 := keep_cell g4 hG
                have c5 := keep_cell g5 hG
                refine wp_yields (v := gndV A cp g) ?_ ⟨_, rfl, rfl, Below.refl _ _, hG⟩
                simp [slotOf] at h6
                simp [execOp, go_sem, h6, c0, c1, c2, c3, c4, c5]
              · intro a W hG hR hO hp
                have h1 := hO.slot 1 (by kernel_rfl)
                refine wp_yields (v := .slice D days.length dp) ?_ ⟨_, rfl, rfl, Below.refl _ _, hG⟩
                simp [slotOf] at h1
                simp [execOp, go_sem, h1]
              · intro a W hG hR hO hp
                have h112 : slotOf a 112 = gndV A cp g := hp.1
                have h113 : slotOf a 113 = .slice D days.length dp := hp.2.1
                refine wp_enters (f := 23) (args := #[gndV A cp g, .slice D days.length dp, .bool true]) ?_ ((refEnds true g A cp days D dp W (by omega) (by omega) (HL.out.next hG).hc (HL.out.next hG).hd).mono ?_)
                · simp [slotOf] at h112 h113
                  simp [go_sem, h112, h113]
                · rintro e w' ⟨L, lp, R, rp, rfl, h2, h3, hb, h4, h5⟩
                  exact ⟨_, rfl, _, rfl, ⟨L, lp, R, rp, rfl, h2, h3, fun _ _ => Nat.zero_le _, fun _ _ => Nat.zero_le _⟩, hb, below_next hG hb⟩
              · intro a W hG hR hO hp
                have h114 := hp.1
                obtain ⟨L, lp, R, rp, h114, h1, h2, -, -⟩ := h114
                refine wp_enters (f := 33) (args := #[truthV (endOf true g.slo g.shi) (endOf true g.klo g.khi) L g.cells.length lp R days.length rp]) ?_ ((lawTruthE true g days L lp R rp W (by omega) (by omega) h1 h2).mono ?_)
                · simp [slotOf] at h114
                  simp [go_sem, h114]
                · rintro e w' ⟨⟨vx, rfl, hv⟩, hb⟩
                  exact ⟨_, rfl, _, rfl, hv, hb, below_next hG hb⟩
              · intro a W hG hR hO hp
                have h109 := hp.1
                have h111 := hp.2.1
                have h115 := hp.2.2.1
                obtain ⟨Ag, cg, h109, hrg⟩ := h109
                obtain ⟨Ad, cd, h111, hrd⟩ := h111
                obtain ⟨L, lp, R, rp, h115, h1, h2, -, -⟩ := h115
                have hrun := run_ends_pump true g kk pm Ag cg days Ad cd L lp R rp W (by omega) (by omega) (by rw [← HG'.out]; exact HFG.out) (by rw [← HG'.out]; exact hrg) hrd h1 h2
                rw [← HG'.out] at hrun
                refine wp_enters (f := 32) (args := #[gndV Ag cg g', .slice Ad days.length cd, truthV (endOf true g.slo g.shi) (endOf true g.klo g.khi) L g.cells.length lp R days.length rp]) ?_ (hrun.mono ?_)
                · simp [slotOf] at h109 h111 h115
                  simp [go_sem, h109, h111, h115]
                · rintro e w' ⟨⟨vx, rfl, hv⟩, hb⟩
                  exact ⟨_, rfl, _, rfl, hv, hb, below_next hG hb⟩
              · intro a W hG hR hO hp
                have h116 := hp.1
                obtain ⟨v1, v2, h116, hv1, hv2⟩ := h116
                refine wp_yields (v := .tuple #[v1, v2, vi (stE true g' days days.length).snow, vi 0]) ?_ ⟨_, rfl, ⟨v1, v2, rfl, hv1, hv2⟩, Below.refl _ _, hG⟩
                simp [slotOf] at h116
                simp [execOp, go_sem, h116]
              · intro a W hG hR hO hp
                have h107 := hp.1
                obtain ⟨v1, v2, h107, hv1, hv2⟩ := h107
                refine wp_yields (v := v1) ?_ ⟨_, rfl, hv1, Below.refl _ _, hG⟩
                simp [slotOf] at h107
                simp [execOp, go_sem, h107]
              · intro a W hG hR hO hp
                have h107 := hp.1
                obtain ⟨v1, v2, h107, hv1, hv2⟩ := h107
                refine wp_yields (v := v2) ?_ ⟨_, rfl, hv2, Below.refl _ _, hG⟩
                simp [slotOf] at h107
                simp [execOp, go_sem, h107]
              · intro a W hG hR hO hp
                have h107 := hp.1
                obtain ⟨v1, v2, h107, hv1, hv2⟩ := h107
                refine wp_yields (v := vi (stE true g' days days.length).snow) ?_ ⟨_, rfl, rfl, Below.refl _ _, hG⟩
                simp [slotOf] at h107
                simp [execOp, go_sem, h107]
              · intro a W hG hR hO hp
                have h107 := hp.1
                obtain ⟨v1, v2, h107, hv1, hv2⟩ := h107
                refine wp_yields (v := vi 0) ?_ ⟨_, rfl, rfl, Below.refl _ _, hG⟩
                simp [slotOf] at h107
                simp [execOp, go_sem, h107]
              · intro a W hG hR hO hp
                have h117 := hp.1
                obtain ⟨Qx, cqx, Ax, cx, bx, h117, hq1, hq2⟩ := h117
                refine wp_yields (v := .slice Qx days.length cqx) ?_ ⟨_, rfl, ⟨Qx, cqx, Ax, cx, bx, rfl, hq1, hq2⟩, Below.refl _ _, hG⟩
                simp [slotOf] at h117
                simp [execOp, go_sem, h117]
              · intro a W hG hR hO hp
                have h118 := hp.1
                obtain ⟨sl, Qx, cqx, bx, h118, hq1⟩ := h118
                refine wp_yields (v := .slice Qx days.length cqx) ?_ ⟨_, rfl, ⟨sl, Qx, cqx, bx, rfl, hq1⟩, Below.refl _ _, hG⟩
                simp [slotOf] at h118
                simp [execOp, go_sem, h118]
              · intro a W hG hR hO hp
                have h119 : slotOf a 119 = vi (stE true g' days days.length).snow := hp.1
                refine wp_yields (v := vi (stE true g' days days.length).snow) ?_ ⟨_, rfl, rfl, Below.refl _ _, hG⟩
                simp [slotOf] at h119
                simp [execOp, go_sem, h119]
            · intro W hG hR
              rintro _ rfl _ ⟨_, _, rfl, -⟩ _ rfl _ ⟨_, _, rfl, -⟩ _ rfl _ rfl _ ⟨_, _, _, _, rfl, -, -, -, -⟩ _ ⟨_, _, _, _, rfl, -, -, -, -⟩ _ ⟨_, _, rfl, -, -⟩ _ ⟨_, _, rfl, -, -⟩ _ ⟨_, _, _, _, _, rfl, -, -⟩ _ ⟨_, _, _, _, rfl, -⟩ _ rfl _ rfl _ ⟨Q1, cq1, Af1, cf1, bs1, rfl, hT1, hR1⟩ _ ⟨_, _, _, _, rfl, -⟩ _ rfl
              change wpList _ _ _ _ _ _
              simp only [Act.put, List.setIfInBounds_toArray, List.set_cons_zero, List.set_cons_succ, List.drop_succ_cons, List.drop_zero]
              have HL' := Lib.hid (HL.out.next hG)
              have HX1 : Hid (vT1 g.cells.length days.length (fun j i => (stE true g' days (j + 1)).f i) (.slice Q1 days.length cq1) W) := Lib.hid (by rw [← HGL.out]; exact ⟨Q1, cq1, Af1, cf1, bs1, rfl, hT1, hR1⟩)
              clear hG hR hT1 hR1 HL HP g0 g1 g2 g3 g4 g5 x0 x1 x2 x3 x4 x5
              obtain ⟨wv, hwv⟩ : ∃ wv, wv = W := ⟨_, rfl⟩
              rw [← hwv] at HL' HX1 ⊢
              clear hwv W
              obtain ⟨hh, hhh⟩ : ∃ hh, hh = highN (fun j i => (stE true g' days (j + 1)).f i) kk days.length := ⟨_, rfl⟩
              have HHI := Lib.hid (highest_any kk wv (by omega) hkl HX1.out)
              have hgt := HGT.out
              rw [← hhh] at HHI hgt
              clear hhh HGT
              go_wp2_with fail
              refine (HHI.out).mono ?_
              rintro e w5 ⟨rfl, hb5⟩
              have HL5 := Lib.hid (HL'.out.next hb5)
              clear hb5 HL' HHI HX1
              go_wp2_with fail
              refine (wakes_any _).mono ?_
              rintro e w8 ⟨rfl, hb8⟩
              have HF := Lib.hid (HL5.out.next hb8).below
              clear hb8
              go_wp2_with fail
              go_ret
              exact ⟨rfl, HF.out⟩
          · go_upto_region 16 with fail
            have hpm := HPM.out
            unfold mx at hpm
            rw [if_neg (by omega)] at hpm
            rw [← hpm]
            have hpk := HPK.out
            clear HPK HPM hpm hs hw3 hw4 hz hzb hnn hnb
            have HL := HL5
            clear HL5
            obtain ⟨wv, hwv⟩ : ∃ wv, wv = w5 := ⟨_, rfl⟩
            rw [← hwv] at HL ⊢
            clear hwv
            have hnk := hpk
            obtain ⟨g', hg'⟩ : ∃ g', g' = withPump g kk pm := ⟨_, rfl⟩
            have HG' := Lib.hid hg'
            have hgl : g'.cells.length = g.cells.length := by rw [hg', withPump_len]
            have HGL := Lib.hid hgl
            have hgn : g'.cells.length ≤ 8 := by omega
            have HFG : Hid (faultN g' days = 0) := Lib.hid (by rw [hg']; exact fault_pump HFZ.out kk (by omega) (by omega))
            have HGT : Hid (level < highN (fun j i => (stE true g' days (j + 1)).f i) kk days.length) := Lib.hid (by rw [hg']; exact keeps_no hnk)
            clear hg' hgl hnk hpk
            have g0 := (HL.out.gb).at 0 (v := .slice A g.cells.length cp) rfl
            have g1 := (HL.out.gb).at 1 (v := vi g.slo) rfl
            have g2 := (HL.out.gb).at 2 (v := vi g.shi) rfl
            have g3 := (HL.out.gb).at 3 (v := vi g.klo) rfl
            have g4 := (HL.out.gb).at 4 (v := vi g.khi) rfl
            have g5 := (HL.out.gb).at 5 (v := vi g.melt) rfl
            go_wp2_with fail
            refine (refWith g A cp kk pm wv (by omega) hkl HL.out.hc).mono ?_
            rintro e w3 ⟨A3, cz, rfl, hr3, hb3⟩
            rw [← HG'.out] at hr3 ⊢
            have HP : Hid (Gw w3.heap.size g' A3 cz (w3.alloc (.cells (gndC A3 cz g') 26))) := Lib.hid ⟨Whole.made _ _ _, row_alloc hr3 _⟩
            have HL3 := Lib.hid ((HL.out.next hb3).alloc (.cells (gndC A3 cz g') 26))
            clear hr3 hb3 HL g0 g1 g2 g3 g4 g5
            go_upto_region 17 with fail
            obtain ⟨pb, hpb⟩ : ∃ pb, pb = w3.heap.size := ⟨_, rfl⟩
            obtain ⟨wv, hwv⟩ : ∃ wv, wv = w3.alloc (.cells (gndC A3 cz g') 26) := ⟨_, rfl⟩
            rw [← hwv, ← hpb] at HP ⊢
            rw [← hwv] at HL3
            clear hwv hpb w3
            have HL := HL3
            clear HL3
            have g0 := (HL.out.gb).at 0 (v := .slice A g.cells.length cp) rfl
            have g1 := (HL.out.gb).at 1 (v := vi g.slo) rfl
            have g2 := (HL.out.gb).at 2 (v := vi g.shi) rfl
            have g3 := (HL.out.gb).at 3 (v := vi g.klo) rfl
            have g4 := (HL.out.gb).at 4 (v := vi g.khi) rfl
            have g5 := (HL.out.gb).at 5 (v := vi g.melt) rfl
            have x0 := (HP.out.gb).at 0 (v := .slice A3 g'.cells.length cz) rfl
            have x1 := (HP.out.gb).at 1 (v := vi g'.slo) rfl
            have x2 := (HP.out.gb).at 2 (v := vi g'.shi) rfl
            have x3 := (HP.out.gb).at 3 (v := vi g'.klo) rfl
            have x4 := (HP.out.gb).at 4 (v := vi g'.khi) rfl
            have x5 := (HP.out.gb).at 5 (v := vi g'.melt) rfl
            refine wp_words (by kernel_rfl) (region_told 17 (by kernel_rfl) (by kernel_rfl) (fun W => Below wv.heap.size wv W) newer (pickD [vIs (gndV A3 cz g'), vGn g', vIs (.slice D days.length dp), vDy days, vIs (gndV A cp g), vIs (.slice D days.length dp), vTruth 0 true g days, vTruth 0 true g days, vRunE true g' days, vRunE true g' days, vT1 g'.cells.length days.length (fun j i => (stE true g' days (j + 1)).f i), vLf days.length, vIs (vi (stE true g' days days.length).snow), vIs (vi 0), vT1 g'.cells.length days.length (fun j i => (stE true g' days (j + 1)).f i), vLf days.length, vIs (vi (stE true g' days days.length).snow)]) (fun h k => newer_trans h k) (pickD_stable _ ⟨vIs_st, vGn_st, vIs_st, vDy_st, vIs_st, vIs_st, vTruth_st, vTruth_st, vRunE_st, vRunE_st, vT1_st, vLf_st, vIs_st, vIs_st, vT1_st, vLf_st, vIs_st, trivial⟩) (Below.refl _ wv).drew (Below.refl _ _) ?_ ?_)
            · refine ⟨?_, ?_, ?_, ?_, ?_, ?_, ?_, ?_, ?_, ?_, ?_, ?_, ?_, ?_, ?_, ?_, ?_, trivial⟩
              · intro a W hG hR hO hp
                have h22 := hO.slot 22 (by kernel_rfl)
                have c0 := keep_cell x0 hG
                have c1 := keep_cell x1 hG
                have c2 := keep_cell x2 hG
                have c3 := keep_cell x3 hG
                have c4 := keep_cell x4 hG
                have c5 := keep_cell x5 hG
                refine wp_yields (v := gndV A3 cz g') ?_ ⟨_, rfl, rfl, Below.refl _ _, hG⟩
                simp [slotOf] at h22
                simp [execOp, go_sem, h22, c0, c1, c2, c3, c4, c5]
              · intro a W hG hR hO hp
                have h108 : slotOf a 108 = gndV A3 cz g' := hp.1
                refine wp_enters (f := 19) (args := #[gndV A3 cz g']) ?_ ((lawGround g' A3 cz W (by omega) (HP.out.next hG).hc).mono ?_)
                · simp [slotOf] at h108
                  simp [go_sem, h108]
                · rintro e w' ⟨Ax, cx, rfl, h2, hb⟩
                  exact ⟨_, rfl, _, rfl, ⟨Ax, cx, rfl, h2⟩, hb, below_next hG hb⟩
              · intro a W hG hR hO hp
                have h1 := hO.slot 1 (by kernel_rfl)
                refine wp_yields (v := .slice D days.length dp) ?_ ⟨_, rfl, rfl, Below.refl _ _, hG⟩
                simp [slotOf] at h1
                simp [execOp, go_sem, h1]
              · intro a W hG hR hO hp
                have h110 : slotOf a 110 = .slice D days.length dp := hp.1
                refine wp_enters (f := 20) (args := #[.slice D days.length dp]) ?_ ((lawDays days D dp W (by omega) (HL.out.next hG).hd).mono ?_)
                · simp [slotOf] at h110
                  simp [go_sem, h110]
                · rintro e w' ⟨Ax, cx, rfl, h2, hb⟩
                  exact ⟨_, rfl, _, rfl, ⟨Ax, cx, rfl, h2⟩, hb, below_next hG hb⟩
              · intro a W hG hR hO hp
                have h6 := hO.slot 6 (by kernel_rfl)
                have c0 := keep_cell g0 hG
                have c1 := keep_cell g1 hG
                have c2 := keep_cell g2 hG
                have c3 := keep_cell g3 hG
                have c4 := keep_cell g4 hG
                have c5 := keep_cell g5 hG
                refine wp_yields (v := gndV A cp g) ?_ ⟨_, rfl, rfl, Below.refl _ _, hG⟩
                simp [slotOf] at h6
                simp [execOp, go_sem, h6, c0, c1, c2, c3, c4, c5]
              · intro a W hG hR hO hp
                have h1 := hO.slot 1 (by kernel_rfl)
                refine wp_yields (v := .slice D days.length dp) ?_ ⟨_, rfl, rfl, Below.refl _ _, hG⟩
                simp [slotOf] at h1
                simp [execOp, go_sem, h1]
              · intro a W hG hR hO hp
                have h112 : slotOf a 112 = gndV A cp g := hp.1
                have h113 : slotOf a 113 = .slice D days.length dp := hp.2.1
                refine wp_enters (f := 23) (args := #[gndV A cp g, .slice D days.length dp, .bool true]) ?_ ((refEnds true g A cp days D dp W (by omega) (by omega) (HL.out.next hG).hc (HL.out.next hG).hd).mono ?_)
                · simp [slotOf] at h112 h113
                  simp [go_sem, h112, h113]
                · rintro e w' ⟨L, lp, R, rp, rfl, h2, h3, hb, h4, h5⟩
                  exact ⟨_, rfl, _, rfl, ⟨L, lp, R, rp, rfl, h2, h3, fun _ _ => Nat.zero_le _, fun _ _ => Nat.zero_le _⟩, hb, below_next hG hb⟩
              · intro a W hG hR hO hp
                have h114 := hp.1
                obtain ⟨L, lp, R, rp, h114, h1, h2, -, -⟩ := h114
                refine wp_enters (f := 33) (args := #[truthV (endOf true g.slo g.shi) (endOf true g.klo g.khi) L g.cells.length lp R days.length rp]) ?_ ((lawTruthE true g days L lp R rp W (by omega) (by omega) h1 h2).mono ?_)
                · simp [slotOf] at h114
                  simp [go_sem, h114]
                · rintro e w' ⟨⟨vx, rfl, hv⟩, hb⟩
                  exact ⟨_, rfl, _, rfl, hv, hb, below_next hG hb⟩
              · intro a W hG hR hO hp
                have h109 := hp.1
                have h111 := hp.2.1
                have h115 := hp.2.2.1
                obtain ⟨Ag, cg, h109, hrg⟩ := h109
                obtain ⟨Ad, cd, h111, hrd⟩ := h111
                obtain ⟨L, lp, R, rp, h115, h1, h2, -, -⟩ := h115
                have hrun := run_ends_pump true g kk pm Ag cg days Ad cd L lp R rp W (by omega) (by omega) (by rw [← HG'.out]; exact HFG.out) (by rw [← HG'.out]; exact hrg) hrd h1 h2
                rw [← HG'.out] at hrun
                refine wp_enters (f := 32) (args := #[gndV Ag cg g', .slice Ad days.length cd, truthV (endOf true g.slo g.shi) (endOf true g.klo g.khi) L g.cells.length lp R days.length rp]) ?_ (hrun.mono ?_)
                · simp [slotOf] at h109 h111 h115
                  simp [go_sem, h109, h111, h115]
                · rintro e w' ⟨⟨vx, rfl, hv⟩, hb⟩
                  exact ⟨_, rfl, _, rfl, hv, hb, below_next hG hb⟩
              · intro a W hG hR hO hp
                have h116 := hp.1
                obtain ⟨v1, v2, h116, hv1, hv2⟩ := h116
                refine wp_yields (v := .tuple #[v1, v2, vi (stE true g' days days.length).snow, vi 0]) ?_ ⟨_, rfl, ⟨v1, v2, rfl, hv1, hv2⟩, Below.refl _ _, hG⟩
                simp [slotOf] at h116
                simp [execOp, go_sem, h116]
              · intro a W hG hR hO hp
                have h107 := hp.1
                obtain ⟨v1, v2, h107, hv1, hv2⟩ := h107
                refine wp_yields (v := v1) ?_ ⟨_, rfl, hv1, Below.refl _ _, hG⟩
                simp [slotOf] at h107
                simp [execOp, go_sem, h107]
              · intro a W hG hR hO hp
                have h107 := hp.1
                obtain ⟨v1, v2, h107, hv1, hv2⟩ := h107
                refine wp_yields (v := v2) ?_ ⟨_, rfl, hv2, Below.refl _ _, hG⟩
                simp [slotOf] at h107
                simp [execOp, go_sem, h107]
              · intro a W hG hR hO hp
                have h107 := hp.1
                obtain ⟨v1, v2, h107, hv1, hv2⟩ := h107
                refine wp_yields (v := vi (stE true g' days days.length).snow) ?_ ⟨_, rfl, rfl, Below.refl _ _, hG⟩
                simp [slotOf] at h107
                simp [execOp, go_sem, h107]
              · intro a W hG hR hO hp
                have h107 := hp.1
                obtain ⟨v1, v2, h107, hv1, hv2⟩ := h107
                refine wp_yields (v := vi 0) ?_ ⟨_, rfl, rfl, Below.refl _ _, hG⟩
                simp [slotOf] at h107
                simp [execOp, go_sem, h107]
              · intro a W hG hR hO hp
                have h117 := hp.1
                obtain ⟨Qx, cqx, Ax, cx, bx, h117, hq1, hq2⟩ := h117
                refine wp_yields (v := .slice Qx days.length cqx) ?_ ⟨_, rfl, ⟨Qx, cqx, Ax, cx, bx, rfl, hq1, hq2⟩, Below.refl _ _, hG⟩
                simp [slotOf] at h117
                simp [execOp, go_sem, h117]
              · intro a W hG hR hO hp
                have h118 := hp.1
                obtain ⟨sl, Qx, cqx, bx, h118, hq1⟩ := h118
                refine wp_yields (v := .slice Qx days.length cqx) ?_ ⟨_, rfl, ⟨sl, Qx, cqx, bx, rfl, hq1⟩, Below.refl _ _, hG⟩
                simp [slotOf] at h118
                simp [execOp, go_sem, h118]
              · intro a W hG hR hO hp
                have h119 : slotOf a 119 = vi (stE true g' days days.length).snow := hp.1
                refine wp_yields (v := vi (stE true g' days days.length).snow) ?_ ⟨_, rfl, rfl, Below.refl _ _, hG⟩
                simp [slotOf] at h119
                simp [execOp, go_sem, h119]
            · intro W hG hR
              rintro _ rfl _ ⟨_, _, rfl, -⟩ _ rfl _ ⟨_, _, rfl, -⟩ _ rfl _ rfl _ ⟨_, _, _, _, rfl, -, -, -, -⟩ _ ⟨_, _, _, _, rfl, -, -, -, -⟩ _ ⟨_, _, rfl, -, -⟩ _ ⟨_, _, rfl, -, -⟩ _ ⟨_, _, _, _, _, rfl, -, -⟩ _ ⟨_, _, _, _, rfl, -⟩ _ rfl _ rfl _ ⟨Q1, cq1, Af1, cf1, bs1, rfl, hT1, hR1⟩ _ ⟨_, _, _, _, rfl, -⟩ _ rfl
              change wpList _ _ _ _ _ _
              simp only [Act.put, List.setIfInBounds_toArray, List.set_cons_zero, List.set_cons_succ, List.drop_succ_cons, List.drop_zero]
              have HL' := Lib.hid (HL.out.next hG)
              have HX1 : Hid (vT1 g.cells.length days.length (fun j i => (stE true g' days (j + 1)).f i) (.slice Q1 days.length cq1) W) := Lib.hid (by rw [← HGL.out]; exact ⟨Q1, cq1, Af1, cf1, bs1, rfl, hT1, hR1⟩)
              clear hG hR hT1 hR1 HL HP g0 g1 g2 g3 g4 g5 x0 x1 x2 x3 x4 x5
              obtain ⟨wv, hwv⟩ : ∃ wv, wv = W := ⟨_, rfl⟩
              rw [← hwv] at HL' HX1 ⊢
              clear hwv W
              obtain ⟨hh, hhh⟩ : ∃ hh, hh = highN (fun j i => (stE true g' days (j + 1)).f i) kk days.length := ⟨_, rfl⟩
              have HHI := Lib.hid (highest_any kk wv (by omega) hkl HX1.out)
              have hgt := HGT.out
              rw [← hhh] at HHI hgt
              clear hhh HGT
              go_wp2_with fail
              refine (HHI.out).mono ?_
              rintro e w5 ⟨rfl, hb5⟩
              have HL5 := Lib.hid (HL'.out.next hb5)
              clear hb5 HL' HHI HX1
              go_wp2_with fail
              refine (wakes_any _).mono ?_
              rintro e w8 ⟨rfl, hb8⟩
              have HF := Lib.hid (HL5.out.next hb8).below
              clear hb8
              go_wp2_with fail
              go_ret
              exact ⟨rfl, HF.out⟩
  · have hrf : readyB g days = false := by simpa using hrd
    rw [hrf] at HRD
    clear hrd hrf
    go_enter Try.func11, Try.ntmps11
    go_wp2_with fail
    refine (HRD.out).mono ?_
    rintro e w1 ⟨rfl, hb1⟩
    have H1 := Lib.hid (HL0.out.next hb1)
    clear hb1 HRD
    go_wp2_with fail
    refine (wakes_any _).mono ?_
    rintro e w2 ⟨rfl, hb2⟩
    have HF := Lib.hid (H1.out.next hb2).below
    clear hb2 H1
    go_wp2_with fail
    go_ret
    exact ⟨rfl, HF.out⟩

set_option maxRecDepth 100000 in
set_option maxHeartbeats 1000000 in
theorem waterPumps_lifted (os : Os) (started : os.Started) (H : Type) (enc : TypeId × Value → H) :
    ReturnsInHanded {} Try.checked os 11 .any (Rows.waterPumpsSpec.pre6 enc Try.prog Try.f11 Rows.waterPumpsRow.domain false) (Rows.waterPumpsSpec.post enc Try.prog Try.f11 false true false false) := by
  refine returnsInHanded_of_change (C := Try.checked) Try.own started (by kernel_rfl) Try.func11
    (ChangeSpec.witness6 (enc := enc) (C := Try.checked) false ⟨#[], #[.agg #[.slice none 0 0, .int .i64 0, .int .i64 0, .int .i64 0, .int .i64 0, .int .i64 0], .slice none 0 0, .slice none 0 0, .int .u8 0, .int .u16 0, .int .u16 0], []⟩ 8 (by kernel_rfl) (by kernel_rfl) (by kernel_rfl) (by kernel_rfl)) ?_
  intro W base args ds gs before hval0 hW hcnd _
  have hval : ∀ (j : Nat) t v, Try.f11.params[j]? = some t → args[j]? = some v → Value.okWide Try.prog W .any base t v := hval0
  have hW' := hW
  obtain ⟨p, q, hA0, hV, rfl, hfz, hnd⟩ := hW
  have hA : DataW.TrodAll enc Try.prog W 0 (fun _ => true) true Try.f11.params.toList args.toList ds p := hA0
  rw [Try.params11] at hA hval
  obtain ⟨v0, vs0, d0, ds0, p0, q0, hargs, rfl, rfl, h0, r0⟩ := trodAll_cons hA
  obtain ⟨v1, vs1, d1, ds1, p1, q1, rfl, rfl, rfl, h1, r1⟩ := trodAll_cons r0
  obtain ⟨v2, vs2, d2, ds2, p2, q2, rfl, rfl, rfl, h2, r2⟩ := trodAll_cons r1
  obtain ⟨v3, vs3, d3, ds3, p3, q3, rfl, rfl, rfl, h3, r3⟩ := trodAll_cons r2
  obtain ⟨v4, vs4, d4, ds4, p4, q4, rfl, rfl, rfl, h4, r4⟩ := trodAll_cons r3
  obtain ⟨v5, vs5, d5, ds5, p5, q5, rfl, rfl, rfl, h5, r5⟩ := trodAll_cons r4
  obtain ⟨rfl, rfl, rfl⟩ := trodAll_nil r5
  obtain rfl : args = #[v0, v1, v2, v3, v4, v5] := by cases args; simp_all
  obtain ⟨rfl, rfl⟩ := trodVars_none hV
  obtain ⟨c0, rfl, hs0⟩ := okWide_struct Try.underlying26 (hval 0 26 v0 rfl rfl)
  have k0 := h0
  have lt0 : ∀ x ∈ p0, x.block < W.heap.size := by obtain ⟨m, hm⟩ := k0; exact DataW.trod_lt m _ _ _ hm
  obtain ⟨g0, A0, cp0, e0, hl0, hrow0⟩ : ∃ (g : Gnd) (A : Option Addr) (cp : Nat), c0.toList = [.slice A g.cells.length cp, vi g.slo, vi g.shi, vi g.klo, vi g.khi, vi g.melt] ∧ g.cells.length ≤ maxLen ∧ Row cellL 7 W W.heap.size A g.cells := by
    obtain ⟨fuel, hf⟩ := h0
    exact ground_open hf
  obtain rfl : c0 = gndC A0 cp0 g0 := by cases c0; simp_all
  obtain ⟨a1, len1, cap1, rfl⟩ := okWide_slice Try.underlying27 (hval 1 27 v1 rfl rfl)
  have k1 := h1
  have lt1 : ∀ x ∈ p1, x.block < W.heap.size := by obtain ⟨m, hm⟩ := k1; exact DataW.trod_lt m _ _ _ hm
  obtain ⟨D1, l1, dp1, e1, hl1, hrow1⟩ : ∃ (D : Option Addr) (l : List Day) (dp : Nat), (Value.slice a1 len1 cap1).cells.toList = [.slice D l.length dp] ∧ l.length ≤ maxLen ∧ Row dayL 3 W W.heap.size D l := by
    obtain ⟨fuel, hf⟩ := h1
    exact days_open hf
  simp [Value.cells] at e1
  obtain ⟨rfl, rfl, rfl⟩ := e1
  obtain ⟨a2, len2, cap2, rfl⟩ := okWide_slice Try.underlying68 (hval 2 68 v2 rfl rfl)
  have k2 := h2
  have lt2 : ∀ x ∈ p2, x.block < W.heap.size := by obtain ⟨m, hm⟩ := k2; exact DataW.trod_lt m _ _ _ hm
  obtain ⟨D2, l2, dp2, e2, hl2, hrow2⟩ : ∃ (D : Option Addr) (l : List Word) (dp : Nat), (Value.slice a2 len2 cap2).cells.toList = [.slice D l.length dp] ∧ l.length ≤ maxLen ∧ Row wordL 1 W W.heap.size D l := by
    obtain ⟨fuel, hf⟩ := h2
    exact words_open hf
  simp [Value.cells] at e2
  obtain ⟨rfl, rfl, rfl⟩ := e2
  obtain ⟨a3, rfl, rfl, rfl, w3⟩ := open_int Try.underlying5 (hval 3 5 v3 rfl rfl) h3
  obtain ⟨a4, rfl, rfl, rfl, w4⟩ := open_int Try.underlying75 (hval 4 75 v4 rfl rfl) h4
  obtain ⟨a5, rfl, rfl, rfl, w5⟩ := open_int Try.underlying75 (hval 5 75 v5 rfl rfl) h5
  have hb3 := bounds_u8 w3
  have hb4 := bounds_u16 w4
  have hb5 := bounds_u16 w5
  clear hA0 hval0
  refine (waterPumps_walk g0 A0 cp0 l1 a1 cap1 l2 a2 cap2 a3 a4 a5 W hl2 hb3.1 hb3.2 hb4.1 hb4.2 hb5.1 hb5.2 hrow0 hrow1 hrow2).mono fun e W' ⟨he, bel⟩ => ?_
  subst he
  exact ⟨_, rfl, _, _, _, [], _, [], hW', trodAll_mk1 (shut_bool Try.underlying4 _), (trodAll_cons_mk (Below.trod Try.laidOut (by kernel_rfl) (of_decide_eq_true (by kernel_rfl)) k0 bel lt0) (trodAll_cons_mk (Below.trod Try.laidOut (by kernel_rfl) (of_decide_eq_true (by kernel_rfl)) k1 bel lt1) (trodAll_cons_mk (Below.trod Try.laidOut (by kernel_rfl) (of_decide_eq_true (by kernel_rfl)) k2 bel lt2) (trodAll_cons_mk (shut_int Try.underlying5 w3) (trodAll_cons_mk (shut_int Try.underlying75 w4) (trodAll_cons_mk (shut_int Try.underlying75 w5) trodAll_mk0)))))), rfl, bel.frame _, fun h => by cases h⟩

theorem waterPumps_holds : Rows.WaterPumpsSaid :=
  OpenClaim.holds_of_wide 11 Try.f11 rfl rfl rfl rfl rfl rfl rfl ⟨rfl, rfl, rfl, rfl, rfl⟩ rfl rfl rfl rfl rfl (by kernel_rfl) Try.func11 (by kernel_rfl)
    (of_decide_eq_true (by kernel_rfl)) (by unfold Func.isWrapper; first | (rw [if_pos (by decide +kernel)]; kernel_rfl) | (rw [if_neg (by decide +kernel)]; exact ⟨rfl, rfl⟩))
    (fun os started H enc _ => waterPumps_lifted os started H enc)
#print axioms waterPumps_holds
end Go.Proofs.Yteonkhohloabfaa
