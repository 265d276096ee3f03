/- The law WaterReached returns true for every ground, all days, all words and every cell and level, and leaves what it was given as it was. -/
import Derived.Test.YteonkhohloabfaaBI
import Derived.Test.YteonkhohloabfaaBE
import Derived.Test.YteonkhohloabfaaBG
import Derived.Deep.CutBlock
namespace Go.Proofs.Yteonkhohloabfaa
open Go.ChangeShapes Go.WideShapes Go.ChangeAt Go.RowKit Go.Deep

/-- The four days. -/
def four (a b c d : Int) (j : Nat) : Int := if j = 0 then a else if j = 1 then b else if j = 2 then c else d
theorem four_arr (a b c d : Int) : #[vi a, vi b, vi c, vi d] = intArr 4 (four a b c d) := by
  apply Array.ext
  · simp [intArr]
  · intro q h1 h2
    have hq : q < 4 := by simpa using h1
    rcases (show q = 0 ∨ q = 1 ∨ q = 2 ∨ q = 3 by omega) with rfl | rfl | rfl | rfl <;> simp [intArr, four]
/-- The first k of them are late where there is none. -/
def fourTo (N : Nat) (f : Nat → Int) (k j : Nat) : Int := if j < k then lateN N (f j) else f j

set_option maxRecDepth 100000 in
set_option maxHeartbeats 4000000 in
theorem waterReached_walk (g : Gnd) (A : Option Addr) (cp : Nat) (days : List Day) (D : Option Addr) (dp : Nat) (ws : List Word) (V : Option Addr) (vp : Nat) (cell level more : Int) (w : World) (hlws : ws.length ≤ maxLen)
    (hc0 : 0 ≤ cell) (hc1 : cell ≤ 255) (hv0 : 0 ≤ level) (hv1 : level ≤ 65535) (hs0 : 0 ≤ more) (hs1 : more ≤ 65535)
    (hc : Row cellL 7 w w.heap.size A g.cells) (hd : Row dayL 3 w w.heap.size D days) (hv : Row wordL 1 w w.heap.size V ws) :
    Calls Try.prog 12 #[gndV A cp g, .slice D days.length dp, .slice V ws.length vp, .int .u8 cell, .int .u16 level, .int .u16 more] w fun e w' => e = .returned (.bool true) ∧ Below w.heap.size w w' := by
  have HVws := Lib.hid hv
  have HL0 := Lib.hid (Lw.made (cp := cp) hc hd)
  clear hc hd hv
  have HRD := Lib.hid (ready_any g cp A days dp D (w.alloc (.cells (gndC A cp g) 26)) HL0.out.hc HL0.out.hd)
  by_cases hrd : readyB g days = true
  · obtain ⟨hs1, hs2, hfz⟩ := ready_zero hrd
    have hn1 := (fault_cells hfz).1
    have hn8 := (fault_cells hfz).2
    have hm30 := (fault_zero hfz).2.1
    have HFZ := Lib.hid hfz
    rw [hrd] at HRD
    clear hrd hfz
    obtain ⟨kk, hkk⟩ : ∃ kk : Nat, cell % (g.cells.length : Int) = kk := ⟨(cell % (g.cells.length : Int)).toNat, by have := Int.emod_nonneg cell (show (g.cells.length : Int) ≠ 0 by omega); omega⟩
    have hkn : (kk : Int) < g.cells.length := by have := Int.emod_lt_of_pos cell (show (0 : Int) < g.cells.length by omega); omega
    have hkl : kk < g.cells.length := by omega
    have hk4 : cell.tmod (g.cells.length : Int) = kk := by rw [Int.tmod_eq_emod_of_nonneg hc0]; exact hkk
    have hk6 : ¬ ((g.cells.length : Int) = 0) := by omega
    have hk7 : IntKind.i64.wrap (kk : Int) = kk := IntWalk.i64_in _ (by omega)
    have hk8 : IntKind.i64.wrap cell = cell := IntWalk.i64_in _ (by omega)
    have hw1 : IntKind.i64.wrap level = level := IntWalk.i64_in _ (by omega)
    have hw2 : IntKind.i64.wrap more = more := IntWalk.i64_in _ (by omega)
    have hw3 : IntKind.i64.wrap (level + more) = level + more := IntWalk.i64_in _ (by omega)
    clear hkk
    obtain ⟨l2, hl2⟩ : ∃ l2 : Int, l2 = mn 100000 (level + more) := ⟨_, rfl⟩
    have hmn := mn_le 100000 (level + more)
    rw [← hl2] at hmn
    have hl20 : 0 ≤ l2 := by omega
    have hl21 : l2 ≤ 100000 := by omega
    have hl2g : level ≤ l2 := by omega
    have HL2 := Lib.hid hl2
    clear hl2 hmn
    obtain ⟨fa, hfa⟩ : ∃ fa, fa = firstE true g days kk level := ⟨_, rfl⟩
    obtain ⟨fb, hfb⟩ : ∃ fb, fb = firstE false g days kk level := ⟨_, rfl⟩
    obtain ⟨fc, hfc⟩ : ∃ fc, fc = firstE true g days kk l2 := ⟨_, rfl⟩
    obtain ⟨fd, hfd⟩ : ∃ fd, fd = firstE false g days kk l2 := ⟨_, rfl⟩
    have HEQ := Lib.hid (And.intro hfa (And.intro hfb (And.intro hfc hfd)))
    have ba := firstE_bd true g days kk level
    have bb := firstE_bd false g days kk level
    have bc := firstE_bd true g days kk l2
    have bd := firstE_bd false g days kk l2
    rw [← hfa] at ba
    rw [← hfb] at bb
    rw [← hfc] at bc
    rw [← hfd] at bd
    have ja1 : ¬ (fa < -1) := by omega
    have jb1 : ¬ (fb < -1) := by omega
    have ja2 : fa < days.length := ba.2.1
    have jb2 : fb < days.length := bb.2.1
    have jc1 : -1 ≤ fc := bc.1
    have jd1 : -1 ≤ fd := bd.1
    have jc2 : fc < days.length := bc.2.1
    have jd2 : fd < days.length := bd.2.1
    clear ba bb bc bd hfa hfb hfc hfd
    go_enter Try.func12, Try.ntmps12
    go_wp2_with fail
    refine (HRD.out).mono ?_
    rintro e w1 ⟨rfl, hb1⟩
    have H1 := Lib.hid (HL0.out.next hb1)
    clear hb1 HRD HL0
    have g0 := (H1.out.gb).at 0 (v := .slice A g.cells.length cp) rfl
    have g1 := (H1.out.gb).at 1 (v := vi g.slo) rfl
    have g2 := (H1.out.gb).at 2 (v := vi g.shi) rfl
    have g3 := (H1.out.gb).at 3 (v := vi g.klo) rfl
    have g4 := (H1.out.gb).at 4 (v := vi g.khi) rfl
    have g5 := (H1.out.gb).at 5 (v := vi g.melt) rfl
    go_wp2_with fail
    refine (lawGround g A cp w1 (by omega) H1.out.hc).mono ?_
    rintro e w2 ⟨A2, c2, rfl, hr2, hb2⟩
    have H2 := Lib.hid (H1.out.next hb2)
    have HR2 := Lib.hid hr2
    clear hr2 hb2 H1 g0 g1 g2 g3 g4 g5 hk4 hk6 hk7 hk8
    go_wp2_with fail
    refine (lawDays days D dp w2 (by omega) H2.out.hd).mono ?_
    rintro e w3 ⟨A4, c4, rfl, hr3, hb3⟩
    have H3 := Lib.hid (H2.out.next hb3)
    have HRE := Lib.hid (reach_ok g A2 c2 days A4 c4 kk level w3 (by omega) (by omega) ((HR2.out.below hb3).more hb3.size) hr3 (asked_ok HFZ.out hkl hv0 (by omega)))
    rw [← HEQ.out.1, ← HEQ.out.2.1] at HRE
    clear hr3 hb3 H2 HR2
    go_wp2_with fail
    refine (HRE.out).mono ?_
    rintro e wv ⟨rfl, hb4⟩
    have HL := Lib.hid (H3.out.next hb4)
    clear hb4 H3 HRE
    go_upto_region 5 with fail
    go_cut [18, 19, 20] (fun s18 s19 s20 wx => s18 = vi fc ∧ s19 = vi fd ∧ s20 = vi 0 ∧ newer wv wx)
    case first =>
      have g0 := (HL.out.gb).at 0 (v := .slice A g.cells.length cp) rfl
      have g1 := (HL.out.gb).at 1 (v := vi g.slo) rfl
      have g2 := (HL.out.gb).at 2 (v := vi g.shi) rfl
      have g3 := (HL.out.gb).at 3 (v := vi g.klo) rfl
      have g4 := (HL.out.gb).at 4 (v := vi g.khi) rfl
      have g5 := (HL.out.gb).at 5 (v := vi g.melt) rfl
      go_wp2_with fail
      refine (lawGround g A cp wv (by omega) HL.out.hc).mono ?_
      rintro e w2 ⟨A2', c2', rfl, hr2, hb2⟩
      have H2 := Lib.hid (And.intro (HL.out.next hb2) hb2)
      have HR2 := Lib.hid hr2
      clear hr2 hb2 g0 g1 g2 g3 g4 g5
      go_wp2_with fail
      refine (lawDays days D dp w2 (by omega) H2.out.1.hd).mono ?_
      rintro e w3 ⟨A4', c4', rfl, hr3, hb3⟩
      have H3 := Lib.hid (newer_trans H2.out.2 hb3)
      have HRE := Lib.hid (reach_ok g A2' c2' days A4' c4' kk l2 w3 (by omega) (by omega) ((HR2.out.below hb3).more hb3.size) hr3 (asked_ok HFZ.out hkl hl20 hl21))
      rw [← HEQ.out.2.2.1, ← HEQ.out.2.2.2] at HRE
      clear hr3 hb3 H2 HR2
      by_cases hmc : level + more < 100000
      · have e2 := HL2.out
        unfold mn at e2
        rw [if_pos hmc] at e2
        have HE2 := Lib.hid e2
        rw [e2] at HRE
        clear e2
        go_wp2_with fail
        refine (HRE.out).mono ?_
        rintro e w4 ⟨rfl, hb4⟩
        have H4 := Lib.hid (newer_trans H3.out hb4)
        clear hb4 H3 HRE
        go_wp2_with fail
        go_meet
        exact ⟨rfl, rfl, rfl, H4.out⟩
      · have e2 := HL2.out
        unfold mn at e2
        rw [if_neg hmc] at e2
        rw [e2] at HRE
        have HE2 := Lib.hid e2
        clear e2
        go_wp2_with fail
        refine (HRE.out).mono ?_
        rintro e w4 ⟨rfl, hb4⟩
        have H4 := Lib.hid (newer_trans H3.out hb4)
        clear hb4 H3 HRE
        go_wp2_with fail
        go_meet
        exact ⟨rfl, rfl, rfl, H4.out⟩
    case rest =>
      obtain ⟨rfl, rfl, rfl, hnw⟩ := hcut
      have HL5 := Lib.hid (HL.out.next hnw)
      obtain ⟨wv, hwv⟩ : ∃ wv, wv = wc := ⟨_, rfl⟩
      rw [← hwv] at HL5 ⊢
      have HL := HL5
      clear HL5 hnw hwv
      have g0 := (HL.out.gb).at 0 (v := .slice A g.cells.length cp) rfl
      have g1 := (HL.out.gb).at 1 (v := vi g.slo) rfl
      have g2 := (HL.out.gb).at 2 (v := vi g.shi) rfl
      have g3 := (HL.out.gb).at 3 (v := vi g.klo) rfl
      have g4 := (HL.out.gb).at 4 (v := vi g.khi) rfl
      have g5 := (HL.out.gb).at 5 (v := vi g.melt) rfl
      go_upto_region 6 with fail
      refine wp_words (by kernel_rfl) (region_told 18 (by kernel_rfl) (by kernel_rfl) (fun W => Below wv.heap.size wv W) newer (pickD [vIs (gndV A cp g), vGn g, vIs (.slice D days.length dp), vDy days, vIs (gndV A cp g), vIs (.slice D days.length dp), vIs (.slice V ws.length vp), vTrF g days, vTrF g days, vRunF g days, vRunF g days, vLvF g days, vLf days.length, vSnF g days, vIs (vi 0), vLvF g days, vLf days.length, vSnF g days]) (fun h k => newer_trans h k) (pickD_stable _ ⟨vIs_st, vGn_st, vIs_st, vDy_st, vIs_st, vIs_st, vIs_st, vTrF_st, vTrF_st, vRunF_st, vRunF_st, vLvF_st, vLf_st, vSnF_st, vIs_st, vLvF_st, vLf_st, vSnF_st, trivial⟩) (Below.refl _ wv).drew (Below.refl _ _) ?_ ?_)
      · refine ⟨?_, ?_, ?_, ?_, ?_, ?_, ?_, ?_, ?_, ?_, ?_, ?_, ?_, ?_, ?_, ?_, ?_, ?_, trivial⟩
        · intro a W hG hR hO hp
          have h6 := hO.slot 6 (by kernel_rfl)
          have c0 := keep_cell g0 hG
          have c1 := keep_cell g1 hG
          have c2 := keep_cell g2 hG
          have c3 := keep_cell g3 hG
          have c4 := keep_cell g4 hG
          have c5 := keep_cell g5 hG
          refine wp_yields (v := gndV A cp g) ?_ ⟨_, rfl, rfl, Below.refl _ _, hG⟩
          simp [slotOf] at h6
          simp [execOp, go_sem, h6, c0, c1, c2, c3, c4, c5]
        · intro a W hG hR hO hp
          have h69 : slotOf a 69 = gndV A cp g := hp.1
          refine wp_enters (f := 19) (args := #[gndV A cp g]) ?_ ((lawGround g A cp W (by omega) (HL.out.next hG).hc).mono ?_)
          · simp [slotOf] at h69
            simp [go_sem, h69]
          · rintro e w' ⟨Ax, cx, rfl, h2, hb⟩
            exact ⟨_, rfl, _, rfl, ⟨Ax, cx, rfl, h2⟩, hb, below_next hG hb⟩
        · intro a W hG hR hO hp
          have h1 := hO.slot 1 (by kernel_rfl)
          refine wp_yields (v := .slice D days.length dp) ?_ ⟨_, rfl, rfl, Below.refl _ _, hG⟩
          simp [slotOf] at h1
          simp [execOp, go_sem, h1]
        · intro a W hG hR hO hp
          have h71 : slotOf a 71 = .slice D days.length dp := hp.1
          refine wp_enters (f := 20) (args := #[.slice D days.length dp]) ?_ ((lawDays days D dp W (by omega) (HL.out.next hG).hd).mono ?_)
          · simp [slotOf] at h71
            simp [go_sem, h71]
          · rintro e w' ⟨Ax, cx, rfl, h2, hb⟩
            exact ⟨_, rfl, _, rfl, ⟨Ax, cx, rfl, h2⟩, hb, below_next hG hb⟩
        · intro a W hG hR hO hp
          have h6 := hO.slot 6 (by kernel_rfl)
          have c0 := keep_cell g0 hG
          have c1 := keep_cell g1 hG
          have c2 := keep_cell g2 hG
          have c3 := keep_cell g3 hG
          have c4 := keep_cell g4 hG
          have c5 := keep_cell g5 hG
          refine wp_yields (v := gndV A cp g) ?_ ⟨_, rfl, rfl, Below.refl _ _, hG⟩
          simp [slotOf] at h6
          simp [execOp, go_sem, h6, c0, c1, c2, c3, c4, c5]
        · intro a W hG hR hO hp
          have h1 := hO.slot 1 (by kernel_rfl)
          refine wp_yields (v := .slice D days.length dp) ?_ ⟨_, rfl, rfl, Below.refl _ _, hG⟩
          simp [slotOf] at h1
          simp [execOp, go_sem, h1]
        · intro a W hG hR hO hp
          have h2 := hO.slot 2 (by kernel_rfl)
          refine wp_yields (v := .slice V ws.length vp) ?_ ⟨_, rfl, rfl, Below.refl _ _, hG⟩
          simp [slotOf] at h2
          simp [execOp, go_sem, h2]
        · intro a W hG hR hO hp
          have h73 : slotOf a 73 = gndV A cp g := hp.1
          have h74 : slotOf a 74 = .slice D days.length dp := hp.2.1
          have h75 : slotOf a 75 = .slice V ws.length vp := hp.2.2.1
          refine wp_enters (f := 37) (args := #[gndV A cp g, .slice D days.length dp, .slice V ws.length vp]) ?_ ((picked_any g A cp days D dp ws V vp W HFZ.out hlws (HL.out.next hG).hc (HL.out.next hG).hd ((HVws.out.below (HL.out.next hG).below).more (HL.out.next hG).below.size)).mono ?_)
          · simp [slotOf] at h73 h74 h75
            simp [go_sem, h73, h74, h75]
          · rintro e w' ⟨⟨sn, so, lv, rn, v, rfl, hv, hfit⟩, hb⟩
            exact ⟨_, rfl, _, rfl, ⟨sn, so, lv, rn, hv, hfit⟩, hb, below_next hG hb⟩
        · intro a W hG hR hO hp
          have h76 := hp.1
          obtain ⟨sn, so, lv, rn, ⟨L, lp, R, rp, h76, h1, h2⟩, hfit⟩ := h76
          have hlen := fits_len hfit
          refine wp_enters (f := 33) (args := #[truthV sn so L lv.length lp R rn.length rp]) ?_ ((lawTruth sn so lv rn L lp R rp W (by omega) (by omega) h1 h2).mono ?_)
          · simp [slotOf] at h76
            simp [go_sem, h76]
          · rintro e w' ⟨⟨vx, rfl, hv⟩, hb⟩
            exact ⟨_, rfl, _, rfl, ⟨sn, so, lv, rn, hv, hfit⟩, hb, below_next hG hb⟩
        · intro a W hG hR hO hp
          have h70 := hp.1
          have h72 := hp.2.1
          have h77 := hp.2.2.1
          obtain ⟨Ag, cg, h70, hrg⟩ := h70
          obtain ⟨Ad, cd, h72, hrd⟩ := h72
          obtain ⟨sn, so, lv, rn, ⟨L, lp, R, rp, h77, h1, h2⟩, hfit⟩ := h77
          have hlen := fits_len hfit
          refine wp_enters (f := 32) (args := #[gndV Ag cg g, .slice Ad days.length cd, truthV sn so L lv.length lp R rn.length rp]) ?_ ((run_yes g Ag cg days Ad cd sn so lv L lp rn R rp W (by omega) (by omega) (by omega) (by omega) hrg hrd h1 h2 (runN_ok HFZ.out hfit)).mono ?_)
          · simp [slotOf] at h70 h72 h77
            simp [go_sem, h70, h72, h77]
          · rintro e w' ⟨⟨vx, rfl, hv⟩, hb⟩
            exact ⟨_, rfl, _, rfl, vRunF_of HFZ.out hfit hv, hb, below_next hG hb⟩
        · intro a W hG hR hO hp
          have h78 := hp.1
          obtain ⟨v1, v2, v3, h78, hv1, hv2, hv3⟩ := h78
          refine wp_yields (v := .tuple #[v1, v2, v3, vi 0]) ?_ ⟨_, rfl, ⟨v1, v2, v3, rfl, hv1, hv2, hv3⟩, Below.refl _ _, hG⟩
          simp [slotOf] at h78
          simp [execOp, go_sem, h78]
        · intro a W hG hR hO hp
          have h68 := hp.1
          obtain ⟨v1, v2, v3, h68, hv1, hv2, hv3⟩ := h68
          refine wp_yields (v := v1) ?_ ⟨_, rfl, hv1, Below.refl _ _, hG⟩
          simp [slotOf] at h68
          simp [execOp, go_sem, h68]
        · intro a W hG hR hO hp
          have h68 := hp.1
          obtain ⟨v1, v2, v3, h68, hv1, hv2, hv3⟩ := h68
          refine wp_yields (v := v2) ?_ ⟨_, rfl, hv2, Below.refl _ _, hG⟩
          simp [slotOf] at h68
          simp [execOp, go_sem, h68]
        · intro a W hG hR hO hp
          have h68 := hp.1
          obtain ⟨v1, v2, v3, h68, hv1, hv2, hv3⟩ := h68
          refine wp_yields (v := v3) ?_ ⟨_, rfl, hv3, Below.refl _ _, hG⟩
          simp [slotOf] at h68
          simp [execOp, go_sem, h68]
        · intro a W hG hR hO hp
          have h68 := hp.1
          obtain ⟨v1, v2, v3, h68, hv1, hv2, hv3⟩ := h68
          refine wp_yields (v := vi 0) ?_ ⟨_, rfl, rfl, Below.refl _ _, hG⟩
          simp [slotOf] at h68
          simp [execOp, go_sem, h68]
        · intro a W hG hR hO hp
          have h79 := hp.1
          obtain ⟨f, ⟨Qx, cqx, Ax, cx, bx, h79, hq1, hq2⟩, hq3⟩ := h79
          refine wp_yields (v := .slice Qx days.length cqx) ?_ ⟨_, rfl, ⟨f, ⟨Qx, cqx, Ax, cx, bx, rfl, hq1, hq2⟩, hq3⟩, Below.refl _ _, hG⟩
          simp [slotOf] at h79
          simp [execOp, go_sem, h79]
        · intro a W hG hR hO hp
          have h80 := hp.1
          obtain ⟨sl, Qx, cqx, bx, h80, hq1⟩ := h80
          refine wp_yields (v := .slice Qx days.length cqx) ?_ ⟨_, rfl, ⟨sl, Qx, cqx, bx, rfl, hq1⟩, Below.refl _ _, hG⟩
          simp [slotOf] at h80
          simp [execOp, go_sem, h80]
        · intro a W hG hR hO hp
          have h81 := hp.1
          obtain ⟨s, h81, hs⟩ := h81
          refine wp_yields (v := vi s) ?_ ⟨_, rfl, ⟨s, rfl, hs⟩, Below.refl _ _, hG⟩
          simp [slotOf] at h81
          simp [execOp, go_sem, h81]
      · intro W hG hR
        rintro _ rfl _ ⟨_, _, rfl, -⟩ _ rfl _ ⟨_, _, rfl, -⟩ _ rfl _ rfl _ rfl _ ⟨_, _, _, _, ⟨_, _, _, _, rfl, -, -⟩, -⟩ _ ⟨_, _, _, _, ⟨_, _, _, _, rfl, -, -⟩, -⟩ _ ⟨_, _, _, rfl, -, -, -⟩ _ ⟨_, _, _, rfl, -, -, -⟩ _ ⟨_, ⟨_, _, _, _, _, rfl, -, -⟩, -⟩ _ ⟨_, _, _, _, rfl, -⟩ _ ⟨_, rfl, -⟩ _ rfl _ ⟨fl, ⟨Q1, cq1, Af1, cf1, bs1, rfl, hT1, hR1⟩, hB1⟩ _ ⟨_, _, _, _, rfl, -⟩ _ ⟨_, rfl, -⟩
        change wpList _ _ _ _ _ _
        simp only [Act.put, List.setIfInBounds_toArray, List.set_cons_zero, List.set_cons_succ, List.drop_succ_cons, List.drop_zero]
        have HL' := Lib.hid (HL.out.next hG)
        have HX1 := Lib.hid (show vT1 g.cells.length days.length fl (.slice Q1 days.length cq1) _ from ⟨Q1, cq1, Af1, cf1, bs1, rfl, hT1, hR1⟩)
        have HB1 := Lib.hid hB1
        clear hG hR hT1 hR1 hB1 HL g0 g1 g2 g3 g4 g5
        have ho := first_order (days := days) HFZ.out hkl hl2g
        rw [← HEQ.out.1, ← HEQ.out.2.1, ← HEQ.out.2.2.1, ← HEQ.out.2.2.2] at ho
        have HO := Lib.hid ho
        have hall := rd_all (g := g) (days := days) (f := fl) (c := kk) (L := level) (fun k hk => HB1.out k kk hk hkl)
        rw [← HEQ.out.1, ← HEQ.out.2.1] at hall
        have HALL := Lib.hid hall
        clear ho hall
        obtain ⟨wv, hwv⟩ : ∃ wv, wv = W := ⟨_, rfl⟩
        rw [← hwv] at HL' HX1 ⊢
        clear hwv W
        go_wp2_with fail
        have HW0 : Hid (Whole (wv.alloc (.cells #[vi fa, vi fb, vi fc, vi fd] 80)) wv.heap.size 80 (intArr 4 (fourTo days.length (four fa fb fc fd) 0))) := Lib.hid (by rw [four_arr]; exact Whole.made _ _ _)
        have hfb : ∀ j, -1 ≤ four fa fb fc fd j ∧ four fa fb fc fd j < 100 := by intro j; unfold four; (repeat' split) <;> omega
        have HFB := Lib.hid hfb
        clear hfb
        go_loopw [26] (fun s26 wr => ∃ k : Nat, k ≤ 4 ∧ s26 = .int .i64 k ∧ newer wv wr ∧ Whole wr wv.heap.size 80 (intArr 4 (fourTo days.length (four fa fb fc fd) k))) (fun s26 _ => 4 - (intOf s26).toNat)
        case atStart => exact ⟨0, by omega, rfl, newer_alloc _ _, HW0.out⟩
        case round =>
          obtain ⟨k, hk, rfl, hnr, hwr⟩ := hrel
          by_cases hlt : k < 4
          · have hk4 : (k : Int) < 4 := by omega
            have c0 := hwr.at k (intArr_get _ hlt)
            have f0 := hwr.free k
            have hfk := HFB.out k
            obtain ⟨x, hx⟩ : ∃ x, x = four fa fb fc fd k := ⟨_, rfl⟩
            have hfe : fourTo days.length (four fa fb fc fd) k k = x := by rw [hx]; unfold fourTo; rw [if_neg (by omega)]
            rw [hfe] at c0
            rw [← hx] at hfk
            have HX := Lib.hid hx
            have HR := Lib.hid (And.intro hnr hwr)
            clear hx hfe hnr hwr
            by_cases hneg : x < 0
            · have HS : Hid (newer wv (wr.setCell ⟨wv.heap.size, k, none⟩ (.int .i64 days.length)) ∧ Whole (wr.setCell ⟨wv.heap.size, k, none⟩ (.int .i64 days.length)) wv.heap.size 80 (intArr 4 (fourTo days.length (four fa fb fc fd) (k + 1)))) := by
                refine Lib.hid ⟨HR.out.1.setCell (p := ⟨wv.heap.size, k, none⟩) (Nat.le_refl _) _, ?_⟩
                have h := HR.out.2.set k (vi days.length)
                rw [intArr_set _ (fourTo days.length (four fa fb fc fd) (k + 1)) (days.length : Int) (fun i hi => ?_)] at h
                · exact h
                · unfold fourTo
                  by_cases e : i = k
                  · subst e
                    rw [if_pos (by omega), if_pos rfl, ← HX.out]
                    unfold lateN
                    rw [if_pos hneg]
                  · rw [if_neg e]
                    by_cases e2 : i < k
                    · rw [if_pos (by omega), if_pos e2]
                    · rw [if_neg (by omega), if_neg e2]
              go_wp2_with fail
              exact ⟨⟨k + 1, by omega, by go_num, HS.out.1, HS.out.2⟩, by (simp only [intOf]; omega)⟩
            · have HS : Hid (newer wv wr ∧ Whole wr wv.heap.size 80 (intArr 4 (fourTo days.length (four fa fb fc fd) (k + 1)))) := by
                refine Lib.hid ⟨HR.out.1, ?_⟩
                have h := HR.out.2
                rw [intArr_congr (f' := fourTo days.length (four fa fb fc fd) (k + 1)) (fun i hi => ?_)] at h
                · exact h
                · unfold fourTo
                  by_cases e : i = k
                  · subst e
                    rw [if_neg (by omega), if_pos (by omega), ← HX.out]
                    unfold lateN
                    rw [if_neg hneg]
                  · by_cases e2 : i < k
                    · rw [if_pos e2, if_pos (by omega)]
                    · rw [if_neg e2, if_neg (by omega)]
              go_wp2_with fail
              exact ⟨⟨k + 1, by omega, by go_num, HS.out.1, HS.out.2⟩, by (simp only [intOf]; omega)⟩
          · obtain rfl : k = 4 := by omega
            have c0 := hwr.at 0 (intArr_get _ (by omega))
            have c1 := hwr.at 1 (intArr_get _ (by omega))
            have c2 := hwr.at 2 (intArr_get _ (by omega))
            have c3 := hwr.at 3 (intArr_get _ (by omega))
            have e0 : fourTo days.length (four fa fb fc fd) 4 0 = lateN days.length fa := rfl
            have e1 : fourTo days.length (four fa fb fc fd) 4 1 = lateN days.length fb := rfl
            have e2 : fourTo days.length (four fa fb fc fd) 4 2 = lateN days.length fc := rfl
            have e3 : fourTo days.length (four fa fb fc fd) 4 3 = lateN days.length fd := rfl
            rw [e0] at c0
            rw [e1] at c1
            rw [e2] at c2
            rw [e3] at c3
            have ho := HO.out
            have hall := HALL.out
            obtain ⟨la, hla⟩ : ∃ la, la = lateN days.length fa := ⟨_, rfl⟩
            obtain ⟨lb, hlb⟩ : ∃ lb, lb = lateN days.length fb := ⟨_, rfl⟩
            obtain ⟨lc, hlc⟩ : ∃ lc, lc = lateN days.length fc := ⟨_, rfl⟩
            obtain ⟨ld, hld⟩ : ∃ ld, ld = lateN days.length fd := ⟨_, rfl⟩
            rw [← hla] at c0
            rw [← hlb] at c1
            rw [← hlc] at c2
            rw [← hld] at c3
            rw [← hla, ← hlb, ← hlc, ← hld] at ho
            rw [← hla, ← hlb] at hall
            have HCC := Lib.hid (And.intro c0 c1)
            have HAL := Lib.hid hall
            have j1 : ¬ (lb < la) := by omega
            have j2 : ¬ (lc < la) := by omega
            have j3 : ¬ (ld < lb) := by omega
            have HLr := Lib.hid (HL'.out.next hnr)
            have HXr := Lib.hid (vT1_st _ _ _ HX1.out hnr)
            clear e0 e1 e2 e3 hla hlb hlc hld ho hall HW0 hnr hwr hk hlt
            have hwn : IntKind.i64.wrap ((days.length : Int) - 1) = (days.length : Int) - 1 := IntWalk.i64_in _ (by omega)
            go_wp2_with fail
            clear c0 c1 c2 c3
            obtain ⟨wo, rfl⟩ : ∃ wo : World, wo = wr := ⟨_, rfl⟩
            go_loopw [27, 28] (fun s27 s28 wr => ∃ (m : Nat) (x : Int), m ≤ days.length ∧ s28 = .int .i64 x ∧ s27 = vi (rd fl kk level days.length m) ∧ newer wo wr ∧ x + 1 + m ≤ days.length ∧ days.length ≤ x + 1 + m) (fun _ s28 _ => (intOf s28 + 1).toNat)
            case atStart => exact ⟨0, _, Nat.zero_le _, rfl, rfl, Below.refl _ _, by omega, by omega⟩
            case round =>
              obtain ⟨m, x, hm, rfl, rfl, hnr, hx1, hx2⟩ := hrel
              by_cases hx : 0 ≤ x
              · obtain ⟨j, rfl⟩ : ∃ j : Nat, x = j := ⟨x.toNat, by omega⟩
                have hj : j < days.length := by omega
                have hji : (j : Int) < days.length := by omega
                have HJ := Lib.hid (show j = days.length - 1 - m by omega)
                obtain ⟨q1, Ay1, cy1, e1, y1, hry1⟩ := vT1_at (vT1_st _ _ _ HXr.out hnr) hj
                obtain ⟨p1, o1, e2, _, z1⟩ := cells_of_row hry1 hkl
                have HLi := Lib.hid (HLr.out.next hnr)
                have g0 := HLi.out.gb.at 0 (v := .slice A g.cells.length cp) rfl
                have hwj : IntKind.i64.wrap ((j : Int) - 1) = (j : Int) - 1 := IntWalk.i64_in _ (by omega)
                have HN := Lib.hid hnr
                subst e1
                subst e2
                obtain ⟨xl, hxl⟩ : ∃ xl, xl = fl j kk := ⟨_, rfl⟩
                rw [← hxl] at z1
                have HXL := Lib.hid hxl
                clear hxl hry1 hnr
                by_cases hle : level ≤ xl
                · have hrd : rd fl kk level days.length (m + 1) = (j : Int) := by
                    simp only [rd]
                    rw [← HJ.out, if_pos (by rw [← HXL.out]; exact hle)]
                  have HRD' := Lib.hid hrd
                  clear hrd
                  go_wp2_with fail
                  go_quiet (fail)
                  go_wp2_with fail
                  exact ⟨⟨m + 1, _, by omega, rfl, by rw [HRD'.out], newer_trans HN.out (newer_drewN _ _), by omega, by omega⟩, by (simp only [intOf]; omega)⟩
                · have hrd : rd fl kk level days.length (m + 1) = rd fl kk level days.length m := by
                    simp only [rd]
                    rw [← HJ.out, if_neg (by rw [← HXL.out]; exact hle)]
                  have HRD' := Lib.hid hrd
                  clear hrd
                  go_wp2_with fail
                  go_quiet (fail)
                  go_wp2_with fail
                  exact ⟨⟨m + 1, _, by omega, rfl, by rw [HRD'.out], newer_trans HN.out (newer_drewN _ _), by omega, by omega⟩, by (simp only [intOf]; omega)⟩
              · obtain rfl : m = days.length := by omega
                have hxn : x < 0 := by omega
                have c0 := keep_cell HCC.out.1 hnr
                have c1 := keep_cell HCC.out.2 hnr
                have HLi := Lib.hid (HLr.out.next hnr)
                obtain ⟨rr, hrr⟩ : ∃ rr, rr = rd fl kk level days.length days.length := ⟨_, rfl⟩
                have hal := HAL.out
                rw [← hrr] at hal ⊢
                have k1 : la ≤ rr := hal.1
                have k2 : rr ≤ lb := hal.2
                clear hrr hal hnr hx1 hx2 hx
                go_wp2_with fail
                refine (wakes_any _).mono ?_
                rintro e w8 ⟨rfl, hb8⟩
                have HF := Lib.hid (HLi.out.next hb8).below
                clear hb8
                go_wp2_with fail
                go_ret
                exact ⟨rfl, HF.out⟩
  · have hrf : readyB g days = false := by simpa using hrd
    rw [hrf] at HRD
    clear hrd hrf
    go_enter Try.func12, Try.ntmps12
    go_wp2_with fail
    refine (HRD.out).mono ?_
    rintro e w1 ⟨rfl, hb1⟩
    have H1 := Lib.hid (HL0.out.next hb1)
    clear hb1 HRD
    go_wp2_with fail
    refine (wakes_any _).mono ?_
    rintro e w2 ⟨rfl, hb2⟩
    have HF := Lib.hid (H1.out.next hb2).below
    clear hb2 H1
    go_wp2_with fail
    go_ret
    exact ⟨rfl, HF.out⟩

set_option maxRecDepth 100000 in
set_option maxHeartbeats 1000000 in
theorem waterReached_lifted (os : Os) (started : os.Started) (H : Type) (enc : TypeId × Value → H) :
    ReturnsInHanded {} Try.checked os 12 .any (Rows.waterReachedSpec.pre6 enc Try.prog Try.f12 Rows.waterReachedRow.domain false) (Rows.waterReachedSpec.post enc Try.prog Try.f12 false true false false) := by
  refine returnsInHanded_of_change (C := Try.checked) Try.own started (by kernel_rfl) Try.func12
    (ChangeSpec.witness6 (enc := enc) (C := Try.checked) false ⟨#[], #[.agg #[.slice none 0 0, .int .i64 0, .int .i64 0, .int .i64 0, .int .i64 0, .int .i64 0], .slice none 0 0, .slice none 0 0, .int .u8 0, .int .u16 0, .int .u16 0], []⟩ 8 (by kernel_rfl) (by kernel_rfl) (by kernel_rfl) (by kernel_rfl)) ?_
  intro W base args ds gs before hval0 hW hcnd _
  have hval : ∀ (j : Nat) t v, Try.f12.params[j]? = some t → args[j]? = some v → Value.okWide Try.prog W .any base t v := hval0
  have hW' := hW
  obtain ⟨p, q, hA0, hV, rfl, hfz, hnd⟩ := hW
  have hA : DataW.TrodAll enc Try.prog W 0 (fun _ => true) true Try.f12.params.toList args.toList ds p := hA0
  rw [Try.params12] at hA hval
  obtain ⟨v0, vs0, d0, ds0, p0, q0, hargs, rfl, rfl, h0, r0⟩ := trodAll_cons hA
  obtain ⟨v1, vs1, d1, ds1, p1, q1, rfl, rfl, rfl, h1, r1⟩ := trodAll_cons r0
  obtain ⟨v2, vs2, d2, ds2, p2, q2, rfl, rfl, rfl, h2, r2⟩ := trodAll_cons r1
  obtain ⟨v3, vs3, d3, ds3, p3, q3, rfl, rfl, rfl, h3, r3⟩ := trodAll_cons r2
  obtain ⟨v4, vs4, d4, ds4, p4, q4, rfl, rfl, rfl, h4, r4⟩ := trodAll_cons r3
  obtain ⟨v5, vs5, d5, ds5, p5, q5, rfl, rfl, rfl, h5, r5⟩ := trodAll_cons r4
  obtain ⟨rfl, rfl, rfl⟩ := trodAll_nil r5
  obtain rfl : args = #[v0, v1, v2, v3, v4, v5] := by cases args; simp_all
  obtain ⟨rfl, rfl⟩ := trodVars_none hV
  obtain ⟨c0, rfl, hs0⟩ := okWide_struct Try.underlying26 (hval 0 26 v0 rfl rfl)
  have k0 := h0
  have lt0 : ∀ x ∈ p0, x.block < W.heap.size := by obtain ⟨m, hm⟩ := k0; exact DataW.trod_lt m _ _ _ hm
  obtain ⟨g0, A0, cp0, e0, hl0, hrow0⟩ : ∃ (g : Gnd) (A : Option Addr) (cp : Nat), c0.toList = [.slice A g.cells.length cp, vi g.slo, vi g.shi, vi g.klo, vi g.khi, vi g.melt] ∧ g.cells.length ≤ maxLen ∧ Row cellL 7 W W.heap.size A g.cells := by
    obtain ⟨fuel, hf⟩ := h0
    exact ground_open hf
  obtain rfl : c0 = gndC A0 cp0 g0 := by cases c0; simp_all
  obtain ⟨a1, len1, cap1, rfl⟩ := okWide_slice Try.underlying27 (hval 1 27 v1 rfl rfl)
  have k1 := h1
  have lt1 : ∀ x ∈ p1, x.block < W.heap.size := by obtain ⟨m, hm⟩ := k1; exact DataW.trod_lt m _ _ _ hm
  obtain ⟨D1, l1, dp1, e1, hl1, hrow1⟩ : ∃ (D : Option Addr) (l : List Day) (dp : Nat), (Value.slice a1 len1 cap1).cells.toList = [.slice D l.length dp] ∧ l.length ≤ maxLen ∧ Row dayL 3 W W.heap.size D l := by
    obtain ⟨fuel, hf⟩ := h1
    exact days_open hf
  simp [Value.cells] at e1
  obtain ⟨rfl, rfl, rfl⟩ := e1
  obtain ⟨a2, len2, cap2, rfl⟩ := okWide_slice Try.underlying68 (hval 2 68 v2 rfl rfl)
  have k2 := h2
  have lt2 : ∀ x ∈ p2, x.block < W.heap.size := by obtain ⟨m, hm⟩ := k2; exact DataW.trod_lt m _ _ _ hm
  obtain ⟨D2, l2, dp2, e2, hl2, hrow2⟩ : ∃ (D : Option Addr) (l : List Word) (dp : Nat), (Value.slice a2 len2 cap2).cells.toList = [.slice D l.length dp] ∧ l.length ≤ maxLen ∧ Row wordL 1 W W.heap.size D l := by
    obtain ⟨fuel, hf⟩ := h2
    exact words_open hf
  simp [Value.cells] at e2
  obtain ⟨rfl, rfl, rfl⟩ := e2
  obtain ⟨a3, rfl, rfl, rfl, w3⟩ := open_int Try.underlying5 (hval 3 5 v3 rfl rfl) h3
  obtain ⟨a4, rfl, rfl, rfl, w4⟩ := open_int Try.underlying75 (hval 4 75 v4 rfl rfl) h4
  obtain ⟨a5, rfl, rfl, rfl, w5⟩ := open_int Try.underlying75 (hval 5 75 v5 rfl rfl) h5
  have hb3 := bounds_u8 w3
  have hb4 := bounds_u16 w4
  have hb5 := bounds_u16 w5
  clear hA0 hval0
  refine (waterReached_walk g0 A0 cp0 l1 a1 cap1 l2 a2 cap2 a3 a4 a5 W hl2 hb3.1 hb3.2 hb4.1 hb4.2 hb5.1 hb5.2 hrow0 hrow1 hrow2).mono fun e W' ⟨he, bel⟩ => ?_
  subst he
  exact ⟨_, rfl, _, _, _, [], _, [], hW', trodAll_mk1 (shut_bool Try.underlying4 _), (trodAll_cons_mk (Below.trod Try.laidOut (by kernel_rfl) (of_decide_eq_true (by kernel_rfl)) k0 bel lt0) (trodAll_cons_mk (Below.trod Try.laidOut (by kernel_rfl) (of_decide_eq_true (by kernel_rfl)) k1 bel lt1) (trodAll_cons_mk (Below.trod Try.laidOut (by kernel_rfl) (of_decide_eq_true (by kernel_rfl)) k2 bel lt2) (trodAll_cons_mk (shut_int Try.underlying5 w3) (trodAll_cons_mk (shut_int Try.underlying75 w4) (trodAll_cons_mk (shut_int Try.underlying75 w5) trodAll_mk0)))))), rfl, bel.frame _, fun h => by cases h⟩

theorem waterReached_holds : Rows.WaterReachedSaid :=
  OpenClaim.holds_of_wide 12 Try.f12 rfl rfl rfl rfl rfl rfl rfl ⟨rfl, rfl, rfl, rfl, rfl⟩ rfl rfl rfl rfl rfl (by kernel_rfl) Try.func12 (by kernel_rfl)
    (of_decide_eq_true (by kernel_rfl)) (by unfold Func.isWrapper; first | (rw [if_pos (by decide +kernel)]; kernel_rfl) | (rw [if_neg (by decide +kernel)]; exact ⟨rfl, rfl⟩))
    (fun os started H enc _ => waterReached_lifted os started H enc)
#print axioms waterReached_holds
end Go.Proofs.Yteonkhohloabfaa
