/- The law WaterMore returns true for every ground, all days, all words and every cell, and leaves what it was given as it was. -/
import Derived.Test.YteonkhohloabfaaBE
import Derived.Deep.CutBlock
namespace Go.Proofs.Yteonkhohloabfaa
open Go.ChangeShapes Go.WideShapes Go.ChangeAt Go.RowKit Go.Deep

set_option maxRecDepth 100000 in
set_option maxHeartbeats 4000000 in
theorem waterMore_walk (g : Gnd) (A : Option Addr) (cp : Nat) (days : List Day) (D : Option Addr) (dp : Nat) (ws : List Word) (V : Option Addr) (vp : Nat) (xs : List Word) (X : Option Addr) (xp : Nat) (cell more : Int) (w : World) (hlws : ws.length ≤ maxLen) (hlxs : xs.length ≤ maxLen)
    (hc0 : 0 ≤ cell) (hc1 : cell ≤ 255) (hm0 : 0 ≤ more) (hm1 : more ≤ 65535)
    (hc : Row cellL 7 w w.heap.size A g.cells) (hd : Row dayL 3 w w.heap.size D days) (hv : Row wordL 1 w w.heap.size V ws) (hx : Row wordL 1 w w.heap.size X xs) :
    Calls Try.prog 10 #[gndV A cp g, .slice D days.length dp, .slice V ws.length vp, .slice X xs.length xp, .int .u8 cell, .int .u16 more] w fun e w' => e = .returned (.bool true) ∧ Below w.heap.size w w' := by
  have HVws := Lib.hid hv
  have HVxs := Lib.hid hx
  have HL0 := Lib.hid (Lw.made (cp := cp) hc hd)
  clear hc hd hv hx
  have HRD := Lib.hid (ready_any g cp A days dp D (w.alloc (.cells (gndC A cp g) 26)) HL0.out.hc HL0.out.hd)
  by_cases hrd : readyB g days = true
  · obtain ⟨hs1, hs2, hfz⟩ := ready_zero hrd
    have hn1 := (fault_cells hfz).1
    have hn8 := (fault_cells hfz).2
    have hm30 := (fault_zero hfz).2.1
    have HFZ := Lib.hid hfz
    obtain ⟨i0, hi0, hz0, hz1, hz2⟩ := info_parts Try.info3
    have HI := Lib.hid (And.intro hi0 (And.intro hz0 (And.intro hz1 hz2)))
    clear hi0 hz0 hz1 hz2
    rw [hrd] at HRD
    clear hrd hfz
    go_enter Try.func10, Try.ntmps10
    go_wp2_with fail
    refine (HRD.out).mono ?_
    rintro e wv ⟨rfl, hb1⟩
    have HL := Lib.hid (HL0.out.next hb1)
    clear hb1 HRD HL0
    have g0 := (HL.out.gb).at 0 (v := .slice A g.cells.length cp) rfl
    have g1 := (HL.out.gb).at 1 (v := vi g.slo) rfl
    have g2 := (HL.out.gb).at 2 (v := vi g.shi) rfl
    have g3 := (HL.out.gb).at 3 (v := vi g.klo) rfl
    have g4 := (HL.out.gb).at 4 (v := vi g.khi) rfl
    have g5 := (HL.out.gb).at 5 (v := vi g.melt) rfl
    go_wp2_with fail
    refine wp_words (by kernel_rfl) (region_pair (n := 10) (by kernel_rfl) (by kernel_rfl) (fun W => Below wv.heap.size wv W) newer (pickD [vIs (gndV A cp g), vIs (.slice D days.length dp), vIs (.slice V ws.length vp), vTrOF g days, vIs (gndV A cp g), vIs (.slice D days.length dp), vIs (.slice X xs.length xp), vTrOF g days, vNew wv.heap.size 47 #[vi 0, vi 0, .slice none 0 0, .slice none 0 0], vNew wv.heap.size 47 #[vi 0, vi 0, .slice none 0 0, .slice none 0 0]]) 8 9 13 14 apartP (by decide) (by kernel_rfl) (by kernel_rfl) (by decide) (by decide) (fun h k => newer_trans h k) (pickD_stable _ ⟨vIs_st, vIs_st, vIs_st, vTrOF_st, vIs_st, vIs_st, vIs_st, vTrOF_st, vNew_st, vNew_st, trivial⟩) (Below.refl _ wv).drew (Below.refl _ _) ?_ ?_)
    · refine ⟨?_, ?_, ?_, ?_, ?_, ?_, ?_, ?_, ?_, ?_, trivial⟩
      · intro a W hG hR hO hp
        have h6 := hO.slot 6 (by kernel_rfl)
        have c0 := keep_cell g0 hG
        have c1 := keep_cell g1 hG
        have c2 := keep_cell g2 hG
        have c3 := keep_cell g3 hG
        have c4 := keep_cell g4 hG
        have c5 := keep_cell g5 hG
        refine wp_yields (v := gndV A cp g) ?_ ⟨_, rfl, rfl, Below.refl _ _, hG, (fun h => absurd h (by decide)), (fun h => absurd h (by decide))⟩
        simp [slotOf] at h6
        simp [execOp, go_sem, h6, c0, c1, c2, c3, c4, c5]
      · intro a W hG hR hO hp
        have h1 := hO.slot 1 (by kernel_rfl)
        refine wp_yields (v := .slice D days.length dp) ?_ ⟨_, rfl, rfl, Below.refl _ _, hG, (fun h => absurd h (by decide)), (fun h => absurd h (by decide))⟩
        simp [slotOf] at h1
        simp [execOp, go_sem, h1]
      · intro a W hG hR hO hp
        have h2 := hO.slot 2 (by kernel_rfl)
        refine wp_yields (v := .slice V ws.length vp) ?_ ⟨_, rfl, rfl, Below.refl _ _, hG, (fun h => absurd h (by decide)), (fun h => absurd h (by decide))⟩
        simp [slotOf] at h2
        simp [execOp, go_sem, h2]
      · intro a W hG hR hO hp
        have h39 : slotOf a 39 = gndV A cp g := hp.1
        have h40 : slotOf a 40 = .slice D days.length dp := hp.2.1
        have h41 : slotOf a 41 = .slice V ws.length vp := hp.2.2.1
        refine wp_enters (f := 37) (args := #[gndV A cp g, .slice D days.length dp, .slice V ws.length vp]) ?_ ((picked_own g A cp days D dp ws V vp W HFZ.out hlws (HL.out.next hG).hc (HL.out.next hG).hd ((HVws.out.below (HL.out.next hG).below).more (HL.out.next hG).below.size)).mono ?_)
        · simp [slotOf] at h39 h40 h41
          simp [go_sem, h39, h40, h41]
        · rintro e w' ⟨⟨sn, so, lv, rn, v, rfl, hv, hfit⟩, hb⟩
          exact ⟨_, rfl, _, rfl, ⟨sn, so, lv, rn, hv, hfit⟩, hb, below_next hG hb, (fun h => absurd h (by decide)), (fun h => absurd h (by decide))⟩
      · intro a W hG hR hO hp
        have h6 := hO.slot 6 (by kernel_rfl)
        have c0 := keep_cell g0 hG
        have c1 := keep_cell g1 hG
        have c2 := keep_cell g2 hG
        have c3 := keep_cell g3 hG
        have c4 := keep_cell g4 hG
        have c5 := keep_cell g5 hG
        refine wp_yields (v := gndV A cp g) ?_ ⟨_, rfl, rfl, Below.refl _ _, hG, (fun h => absurd h (by decide)), (fun h => absurd h (by decide))⟩
        simp [slotOf] at h6
        simp [execOp, go_sem, h6, c0, c1, c2, c3, c4, c5]
      · intro a W hG hR hO hp
        have h1 := hO.slot 1 (by kernel_rfl)
        refine wp_yields (v := .slice D days.length dp) ?_ ⟨_, rfl, rfl, Below.refl _ _, hG, (fun h => absurd h (by decide)), (fun h => absurd h (by decide))⟩
        simp [slotOf] at h1
        simp [execOp, go_sem, h1]
      · intro a W hG hR hO hp
        have h3 := hO.slot 3 (by kernel_rfl)
        refine wp_yields (v := .slice X xs.length xp) ?_ ⟨_, rfl, rfl, Below.refl _ _, hG, (fun h => absurd h (by decide)), (fun h => absurd h (by decide))⟩
        simp [slotOf] at h3
        simp [execOp, go_sem, h3]
      · intro a W hG hR hO hp
        have h43 : slotOf a 43 = gndV A cp g := hp.1
        have h44 : slotOf a 44 = .slice D days.length dp := hp.2.1
        have h45 : slotOf a 45 = .slice X xs.length xp := hp.2.2.1
        refine wp_enters (f := 37) (args := #[gndV A cp g, .slice D days.length dp, .slice X xs.length xp]) ?_ ((picked_own g A cp days D dp xs X xp W HFZ.out hlxs (HL.out.next hG).hc (HL.out.next hG).hd ((HVxs.out.below (HL.out.next hG).below).more (HL.out.next hG).below.size)).mono ?_)
        · simp [slotOf] at h43 h44 h45
          simp [go_sem, h43, h44, h45]
        · rintro e w' ⟨⟨sn, so, lv, rn, v, rfl, hv, hfit⟩, hb⟩
          exact ⟨_, rfl, _, rfl, ⟨sn, so, lv, rn, hv, hfit⟩, hb, below_next hG hb, (fun h => absurd h (by decide)), (fun h => absurd h (by decide))⟩
      · intro a W hG hR hO hp
        refine wp_makes (v := .pointer (some ⟨W.heap.size, 0, none⟩)) (W' := W.alloc (.cells #[vi 0, vi 0, .slice none 0 0, .slice none 0 0] 47)) ?_ ⟨_, rfl, ⟨_, rfl, hG.size, Whole.made _ _ _⟩, (Below.refl _ _).alloc (Nat.le_refl _) _, hG.alloc hG.size _, (fun _ v' hv => (apartP_new hv).1), (fun h => absurd h (by decide))⟩
        skip
        simp [execOp, go_sem]
      · intro a W hG hR hO hp
        refine wp_makes (v := .pointer (some ⟨W.heap.size, 0, none⟩)) (W' := W.alloc (.cells #[vi 0, vi 0, .slice none 0 0, .slice none 0 0] 47)) ?_ ⟨_, rfl, ⟨_, rfl, hG.size, Whole.made _ _ _⟩, (Below.refl _ _).alloc (Nat.le_refl _) _, hG.alloc hG.size _, (fun h => absurd h (by decide)), (fun _ v' hv => (apartP_new hv).2)⟩
        skip
        simp [execOp, go_sem]
    · intro W hG hR
      rintro _ rfl _ rfl _ rfl _ ⟨sn, so, lv, rn, ⟨bs1, L, lp, R, rp, rfl, hL, hR1⟩, hfit⟩ _ rfl _ rfl _ rfl _ ⟨sn', so', lv', rn', ⟨bs2, L', lp', R', rp', rfl, hL', hR1'⟩, hfit'⟩ _ ⟨b1, rfl, hb1, hw1⟩ _ ⟨b2, rfl, hb2, hw2⟩ hE
      change wpList _ _ _ _ _ _
      simp only [Act.put, List.setIfInBounds_toArray, List.set_cons_zero, List.set_cons_succ, List.drop_succ_cons, List.drop_zero]
      have hne : b1 ≠ b2 := hE b1 b2 (by kernel_rfl) (by kernel_rfl)
      have HA := Lib.hid (And.intro (putT_far hw2 (Ne.symm hne) (vi sn) (vi so) (.slice L lv.length lp) (.slice R rn.length rp)) (putT_whole hw1 (vi sn) (vi so) (.slice L lv.length lp) (.slice R rn.length rp)))
      have HWB := Lib.hid (And.intro hw1 hw2)
      have HO := Lib.hid (And.intro hL (And.intro hR1 (And.intro hL' hR1')))
      have HFT := Lib.hid (And.intro hfit hfit')
      have HN := Lib.hid (And.intro hG (And.intro hb1 (And.intro hb2 hne)))
      have x0 := hw1.at 0 rfl
      have x1 := hw1.at 1 rfl
      have x2 := hw1.at 2 rfl
      have x3 := hw1.at 3 rfl
      have f0 := hw1.free 0
      have f1 := hw1.free 1
      have f2 := hw1.free 2
      have f3 := hw1.free 3
      have y0 := HA.out.1.at 0 rfl
      have y1 := HA.out.1.at 1 rfl
      have y2 := HA.out.1.at 2 rfl
      have y3 := HA.out.1.at 3 rfl
      have z0 := HA.out.1.free 0
      have z1 := HA.out.1.free 1
      have z2 := HA.out.1.free 2
      have z3 := HA.out.1.free 3
      clear hG hR hE hL hR1 hL' hR1' hfit hfit' hw1 hw2 hb1 hb2 hne g0 g1 g2 g3 g4 g5
      go_upto_region 4 with fail
      have HL' : Hid (Lw w g A cp days D (putT (putT W b1 (vi sn) (vi so) (.slice L lv.length lp) (.slice R rn.length rp)) b2 (vi sn') (vi so') (.slice L' lv'.length lp') (.slice R' rn'.length rp'))) := Lib.hid (HL.out.next (putT_below (putT_below HN.out.1 HN.out.2.1 _ _ _ _) HN.out.2.2.1 _ _ _ _))
      have HT1 : Hid (Tb b1 sn so lv L lp rn R rp (putT (putT W b1 (vi sn) (vi so) (.slice L lv.length lp) (.slice R rn.length rp)) b2 (vi sn') (vi so') (.slice L' lv'.length lp') (.slice R' rn'.length rp'))) :=
        Lib.hid ⟨putT_far HA.out.2 HN.out.2.2.2 _ _ _ _, row_of_own (by omega) (fun _ => rfl) (putT_own (putT_own HO.out.1 HWB.out.1 (by decide) _ _ _ _) HA.out.1 (by decide) _ _ _ _), row_of_own (by omega) (fun _ => rfl) (putT_own (putT_own HO.out.2.1 HWB.out.1 (by decide) _ _ _ _) HA.out.1 (by decide) _ _ _ _)⟩
      have HT2 : Hid (Tb b2 sn' so' lv' L' lp' rn' R' rp' (putT (putT W b1 (vi sn) (vi so) (.slice L lv.length lp) (.slice R rn.length rp)) b2 (vi sn') (vi so') (.slice L' lv'.length lp') (.slice R' rn'.length rp'))) :=
        Lib.hid ⟨putT_whole HA.out.1 _ _ _ _, row_of_own (by omega) (fun _ => rfl) (putT_own (putT_own HO.out.2.2.1 HWB.out.1 (by decide) _ _ _ _) HA.out.1 (by decide) _ _ _ _), row_of_own (by omega) (fun _ => rfl) (putT_own (putT_own HO.out.2.2.2 HWB.out.1 (by decide) _ _ _ _) HA.out.1 (by decide) _ _ _ _)⟩
      refine genQ (fun X => Lw w g A cp days D X ∧ Tb b1 sn so lv L lp rn R rp X ∧ Tb b2 sn' so' lv' L' lp' rn' R' rp' X) ⟨HL'.out, HT1.out, HT2.out⟩ ?_
      clear HA HWB HO HN HL HL' HT1 HT2 x0 x1 x2 x3 f0 f1 f2 f3 y0 y1 y2 y3 z0 z1 z2 z3
      rintro wv ⟨hl, ht1, ht2⟩
      have HL := Lib.hid hl
      have HT1 := Lib.hid ht1
      have HT2 := Lib.hid ht2
      clear hl ht1 ht2
      have t0 := (HT1.out.tb).at 0 (v := vi sn) rfl
      have t1 := (HT1.out.tb).at 1 (v := vi so) rfl
      have t2 := (HT1.out.tb).at 2 (v := .slice L lv.length lp) rfl
      have t3 := (HT1.out.tb).at 3 (v := .slice R rn.length rp) rfl
      have q0 := (HT2.out.tb).at 0 (v := vi sn') rfl
      have q1 := (HT2.out.tb).at 1 (v := vi so') rfl
      have q2 := (HT2.out.tb).at 2 (v := .slice L' lv'.length lp') rfl
      have q3 := (HT2.out.tb).at 3 (v := .slice R' rn'.length rp') rfl
      go_cut [15] (fun s15 wx => s15 = .pointer (some ⟨wv.heap.size, 0, none⟩) ∧ newer wv wx ∧ ∃ a b, Whole wx wv.heap.size 47 #[vi a, vi b, .slice none 0 0, .slice none 0 0] ∧ a = mx sn sn' ∧ b = mx so so')
      case first =>
        go_wp2_with fail
        all_goals
          go_meet
          exact ⟨rfl, newer_alloc _ _, _, _, Whole.made _ _ _, by unfold mx; split <;> omega, by unfold mx; split <;> omega⟩
      case rest =>
        obtain ⟨rfl, hnw, _, _, hw, rfl, rfl⟩ := hcut
        have HNW := Lib.hid hnw
        have HW := Lib.hid hw
        have hlv := fits_len HFT.out.1
        have hlv' := fits_len HFT.out.2
        have HLV := Lib.hid (And.intro hlv.1 hlv'.1)
        have HRN := Lib.hid (And.intro hlv.2 hlv'.2)
        clear hnw hw hlv hlv' t0 t1 t2 t3 q0 q1 q2 q3
        have t2 := (HT1.out.next HNW.out).tb.at 2 (v := .slice L lv.length lp) rfl
        go_wp2_with fail
        clear t2
        go_loopw [16] (fun s16 wr => ∃ k : Nat, k ≤ lv.length ∧ s16 = .int .i64 k ∧ newer wv wr ∧ ∃ LV, Whole wr wv.heap.size 47 #[vi (mx sn sn'), vi (mx so so'), LV, .slice none 0 0] ∧ wr.ownsRow wv.heap.size 3 1 LV k ((mxL lv lv' k).flatMap intL)) (fun s16 _ => lv.length - (intOf s16).toNat)
        case atStart => exact ⟨0, Nat.zero_le _, rfl, HNW.out, _, HW.out, by simp [mxL], .inl ⟨rfl, rfl⟩⟩
        case round =>
          obtain ⟨k, hk, rfl, hnr, LV, hwr, hown⟩ := hrel
          clear HNW HW
          by_cases hlt : k < lv.length
          · have hkn : (k : Int) < lv.length := by omega
            have hlt' : k < lv'.length := by have := HLV.out; omega
            have hkn' : (k : Int) < lv'.length := by omega
            have hk8 : k < 8 := by have := HLV.out; omega
            obtain ⟨x, hx⟩ := get_of_lt hlt
            obtain ⟨y, hy⟩ := get_of_lt hlt'
            have HXY := Lib.hid (And.intro (iAt_of hx) (iAt_of hy))
            obtain ⟨pb, po, e1, _, c1⟩ := row1 (HT1.out.next hnr).hl hx
            obtain ⟨pb', po', e2, _, c2⟩ := row1 (HT2.out.next hnr).hl hy
            subst e1
            subst e2
            obtain ⟨L3, lp3, rfl⟩ := own_form hown
            have t2 := (HT1.out.next hnr).tb.at 2 (v := .slice (some ⟨pb, po, none⟩) lv.length lp) rfl
            have q2 := (HT2.out.next hnr).tb.at 2 (v := .slice (some ⟨pb', po', none⟩) lv'.length lp') rfl
            have e2 := hwr.at 2 (v := .slice L3 k lp3) rfl
            have HNR := Lib.hid hnr
            have HWR := Lib.hid hwr
            have HOW := Lib.hid hown
            clear hnr hwr hown hx hy
            go_wp2_with fail
            refine wp_words (by kernel_rfl) (region_told 14 (by kernel_rfl) (by kernel_rfl) (fun W => Below wr.heap.size wr W) newer (pickD [vIs (.pointer (some ⟨wv.heap.size, 2, none⟩)), vIs (.slice L3 k lp3), vIs (.pointer (some ⟨b1, 2, none⟩)), vIs (.slice (some ⟨pb, po, none⟩) lv.length lp), vIs (.int .i64 k), vIs (.pointer (some ⟨pb, po + k, none⟩)), vIs (vi x), vIs (.pointer (some ⟨b2, 2, none⟩)), vIs (.slice (some ⟨pb', po', none⟩) lv'.length lp'), vIs (.int .i64 k), vIs (.pointer (some ⟨pb', po' + k, none⟩)), vIs (vi y), vIs (vi (mx x y)), vOne wr.heap.size 3 #[vi (mx x y)]]) (fun h k => newer_trans h k) (pickD_stable _ ⟨vIs_st, vIs_st, vIs_st, vIs_st, vIs_st, vIs_st, vIs_st, vIs_st, vIs_st, vIs_st, vIs_st, vIs_st, vIs_st, vOne_st, trivial⟩) (Below.refl _ wr).drew (Below.refl _ _) ?_ ?_)
            · refine ⟨?_, ?_, ?_, ?_, ?_, ?_, ?_, ?_, ?_, ?_, ?_, ?_, ?_, ?_, trivial⟩
              · intro a W hG hR hO hp
                have h15 := hO.slot 15 (by kernel_rfl)
                refine wp_yields (v := .pointer (some ⟨wv.heap.size, 2, none⟩)) ?_ ⟨_, rfl, rfl, Below.refl _ _, hG⟩
                simp [slotOf] at h15
                simp [execOp, go_sem, h15]
              · intro a W hG hR hO hp
                have h65 : slotOf a 65 = .pointer (some ⟨wv.heap.size, 2, none⟩) := hp.1
                have c0 := keep_cell e2 hG
                refine wp_yields (v := .slice L3 k lp3) ?_ ⟨_, rfl, rfl, Below.refl _ _, hG⟩
                simp [slotOf] at h65
                simp [execOp, go_sem, h65, c0]
              · intro a W hG hR hO hp
                have h13 := hO.slot 13 (by kernel_rfl)
                refine wp_yields (v := .pointer (some ⟨b1, 2, none⟩)) ?_ ⟨_, rfl, rfl, Below.refl _ _, hG⟩
                simp [slotOf] at h13
                simp [execOp, go_sem, h13]
              · intro a W hG hR hO hp
                have h67 : slotOf a 67 = .pointer (some ⟨b1, 2, none⟩) := hp.1
                have c0 := keep_cell t2 hG
                refine wp_yields (v := .slice (some ⟨pb, po, none⟩) lv.length lp) ?_ ⟨_, rfl, rfl, Below.refl _ _, hG⟩
                simp [slotOf] at h67
                simp [execOp, go_sem, h67, c0]
              · intro a W hG hR hO hp
                have h16 := hO.slot 16 (by kernel_rfl)
                refine wp_yields (v := .int .i64 k) ?_ ⟨_, rfl, rfl, Below.refl _ _, hG⟩
                simp [slotOf] at h16
                simp [execOp, go_sem, h16]
              · intro a W hG hR hO hp
                have h68 : slotOf a 68 = .slice (some ⟨pb, po, none⟩) lv.length lp := hp.1
                have h69 : slotOf a 69 = .int .i64 k := hp.2.1
                refine wp_yields (v := .pointer (some ⟨pb, po + k, none⟩)) ?_ ⟨_, rfl, rfl, Below.refl _ _, hG⟩
                simp [slotOf] at h68 h69
                simp [execOp, go_sem, h68, h69, hkn]
              · intro a W hG hR hO hp
                have h70 : slotOf a 70 = .pointer (some ⟨pb, po + k, none⟩) := hp.1
                have c0 := keep_cell c1 hG
                refine wp_yields (v := vi x) ?_ ⟨_, rfl, rfl, Below.refl _ _, hG⟩
                simp [slotOf] at h70
                simp [execOp, go_sem, h70, c0]
              · intro a W hG hR hO hp
                have h14 := hO.slot 14 (by kernel_rfl)
                refine wp_yields (v := .pointer (some ⟨b2, 2, none⟩)) ?_ ⟨_, rfl, rfl, Below.refl _ _, hG⟩
                simp [slotOf] at h14
                simp [execOp, go_sem, h14]
              · intro a W hG hR hO hp
                have h72 : slotOf a 72 = .pointer (some ⟨b2, 2, none⟩) := hp.1
                have c0 := keep_cell q2 hG
                refine wp_yields (v := .slice (some ⟨pb', po', none⟩) lv'.length lp') ?_ ⟨_, rfl, rfl, Below.refl _ _, hG⟩
                simp [slotOf] at h72
                simp [execOp, go_sem, h72, c0]
              · intro a W hG hR hO hp
                have h16 := hO.slot 16 (by kernel_rfl)
                refine wp_yields (v := .int .i64 k) ?_ ⟨_, rfl, rfl, Below.refl _ _, hG⟩
                simp [slotOf] at h16
                simp [execOp, go_sem, h16]
              · intro a W hG hR hO hp
                have h73 : slotOf a 73 = .slice (some ⟨pb', po', none⟩) lv'.length lp' := hp.1
                have h74 : slotOf a 74 = .int .i64 k := hp.2.1
                refine wp_yields (v := .pointer (some ⟨pb', po' + k, none⟩)) ?_ ⟨_, rfl, rfl, Below.refl _ _, hG⟩
                simp [slotOf] at h73 h74
                simp [execOp, go_sem, h73, h74, hkn']
              · intro a W hG hR hO hp
                have h75 : slotOf a 75 = .pointer (some ⟨pb', po' + k, none⟩) := hp.1
                have c0 := keep_cell c2 hG
                refine wp_yields (v := vi y) ?_ ⟨_, rfl, rfl, Below.refl _ _, hG⟩
                simp [slotOf] at h75
                simp [execOp, go_sem, h75, c0]
              · intro a W hG hR hO hp
                have h71 : slotOf a 71 = vi x := hp.1
                have h76 : slotOf a 76 = vi y := hp.2.1
                refine wp_yields (v := vi (mx x y)) ?_ ⟨_, rfl, rfl, Below.refl _ _, hG⟩
                simp [slotOf] at h71 h76
                simp [go_sem, h71, h76, mx]
              · intro a W hG hR hO hp
                have h77 : slotOf a 77 = vi (mx x y) := hp.1
                refine wp_makes (v := .slice (some ⟨W.heap.size, 0, none⟩) 1 1) (W' := W.alloc (.cells #[vi (mx x y)] 3)) ?_ ⟨_, rfl, ⟨_, rfl, hG.size, Whole.made _ _ _⟩, (Below.refl _ _).alloc (Nat.le_refl _) _, hG.alloc hG.size _⟩
                simp [slotOf] at h77
                simp [execOp, go_sem, h77]
            · intro W hG hR
              rintro _ rfl _ rfl _ rfl _ rfl _ rfl _ rfl _ rfl _ rfl _ rfl _ rfl _ rfl _ rfl _ rfl _ ⟨nb, rfl, hnb, hW⟩
              change wpList _ _ _ _ _ _
              simp only [Act.put, List.setIfInBounds_toArray, List.set_cons_zero, List.set_cons_succ, List.drop_succ_cons, List.drop_zero]
              obtain ⟨hi0, hz0, hz1, hz2⟩ := HI.out
              have hw6 := HWR.out.below hG HWR.out.lt
              have ho6 := own_below HOW.out hG
              have hn6 := newer_trans HNR.out hG
              refine wpList_append_lies _ rfl (.tmp 66) (.tmp 78) 43 rfl wv.heap.size 3 i0 (.int .i64 0) 1 8 Try.underlying43 hi0 hz0 hz1 hz2 rfl (by omega) _ k _ rfl ho6 ⟨nb, 0, none⟩ 1 1 [vi (mx x y)] rfl rfl (World.news_of_block hW) (by simp [Value.oneCell']) (by omega) (by unfold maxLen; omega) (by omega) hn6.size W.heap.size rfl ?_
              intro gg cap w1 hown1 hgrow hat hlt1
              unfold mxL at hown1
              rw [snoc_ints (fun i => mx (iAt lv i) (iAt lv' i)) k _ (by rw [HXY.out.1, HXY.out.2])] at hown1
              have hw7 := hw6.grown hgrow (own_ne ho6 hw6 (by decide)).symm
              have hn7 := hn6.grown hgrow hn6.size (own_ge ho6)
              have x2 := hw7.at 2 rfl
              have f2 := hw7.free 2
              have HR := Lib.hid (And.intro (hn7.setCell (p := ⟨wv.heap.size, 2, none⟩) (Nat.le_refl _) (.slice (some ⟨gg, 0, none⟩) (k + 1) cap)) (And.intro (hw7.set 2 (.slice (some ⟨gg, 0, none⟩) (k + 1) cap)) (own_set (i := 2) hown1 (own_ne hown1 hw7 (by decide)) (.slice (some ⟨gg, 0, none⟩) (k + 1) cap))))
              clear hw7 hn7 hw6 ho6 hn6 hown1 hgrow hat hlt1 hW hnb hG hR hi0 hz0 hz1 hz2 HNR HWR HOW t2 q2 e2 c1 c2
              go_wp2_with fail
              go_roundw
              case rel => exact ⟨k + 1, by omega, by go_num, HR.out.1, _, HR.out.2.1, HR.out.2.2⟩
              case measure => simp [intOf]; omega
          · obtain rfl : k = lv.length := by omega
            have t3 := (HT1.out.next hnr).tb.at 3 (v := .slice R rn.length rp) rfl
            have t2 := (HT1.out.next hnr).tb.at 2 (v := .slice L lv.length lp) rfl
            have HNR := Lib.hid hnr
            have HWR := Lib.hid hwr
            have HOW := Lib.hid hown
            clear hnr hwr hown
            go_wp2_with fail
            clear t2 t3
            obtain ⟨wl, rfl⟩ : ∃ wo : World, wo = wr := ⟨_, rfl⟩
            have HSL : Hid (wv.heap.size ≤ wl.heap.size) := Lib.hid HNR.out.size
            have HAP : Hid (∀ q, LV.ownBlock = some q → q < wl.heap.size) := Lib.hid fun q e => (HOW.out.lt q e).2
            go_loopw [17] (fun s17 wr => ∃ k : Nat, k ≤ rn.length ∧ s17 = .int .i64 k ∧ newer wv wr ∧ wl.heap.size ≤ wr.heap.size ∧ ∃ RN, Whole wr wv.heap.size 47 #[vi (mx sn sn'), vi (mx so so'), LV, RN] ∧ wr.ownsRow wv.heap.size 3 1 LV lv.length ((mxL lv lv' lv.length).flatMap intL) ∧ wr.ownsRow wl.heap.size 3 1 RN k ((mxL rn rn' k).flatMap intL)) (fun s17 _ => rn.length - (intOf s17).toNat)
            case atStart => exact ⟨0, Nat.zero_le _, rfl, HNR.out, Nat.le_refl _, _, HWR.out, HOW.out, by simp [mxL], .inl ⟨rfl, rfl⟩⟩
            case round =>
              obtain ⟨k, hk, rfl, hnr, hsz, RN, hwr, howl, hown⟩ := hrel
              clear HNR HWR HOW
              by_cases hlt : k < rn.length
              · have hkn : (k : Int) < rn.length := by omega
                have hlt' : k < rn'.length := by have := HRN.out; omega
                have hkn' : (k : Int) < rn'.length := by omega
                have hk8 : k < 30 := by have := HRN.out; omega
                obtain ⟨x, hx⟩ := get_of_lt hlt
                obtain ⟨y, hy⟩ := get_of_lt hlt'
                have HXY := Lib.hid (And.intro (iAt_of hx) (iAt_of hy))
                obtain ⟨pb, po, e1, _, c1⟩ := row1 (HT1.out.next hnr).hr hx
                obtain ⟨pb', po', e2, _, c2⟩ := row1 (HT2.out.next hnr).hr hy
                subst e1
                subst e2
                obtain ⟨L3, lp3, rfl⟩ := own_form hown
                have t2 := (HT1.out.next hnr).tb.at 3 (v := .slice (some ⟨pb, po, none⟩) rn.length rp) rfl
                have q2 := (HT2.out.next hnr).tb.at 3 (v := .slice (some ⟨pb', po', none⟩) rn'.length rp') rfl
                have e2 := hwr.at 3 (v := .slice L3 k lp3) rfl
                have HNR := Lib.hid hnr
                have HWR := Lib.hid hwr
                have HOW := Lib.hid hown
                have HOL := Lib.hid howl
                clear hnr hwr hown howl hx hy
                go_wp2_with fail
                refine wp_words (by kernel_rfl) (region_told 14 (by kernel_rfl) (by kernel_rfl) (fun W => Below wr.heap.size wr W) newer (pickD [vIs (.pointer (some ⟨wv.heap.size, 3, none⟩)), vIs (.slice L3 k lp3), vIs (.pointer (some ⟨b1, 3, none⟩)), vIs (.slice (some ⟨pb, po, none⟩) rn.length rp), vIs (.int .i64 k), vIs (.pointer (some ⟨pb, po + k, none⟩)), vIs (vi x), vIs (.pointer (some ⟨b2, 3, none⟩)), vIs (.slice (some ⟨pb', po', none⟩) rn'.length rp'), vIs (.int .i64 k), vIs (.pointer (some ⟨pb', po' + k, none⟩)), vIs (vi y), vIs (vi (mx x y)), vOne wr.heap.size 3 #[vi (mx x y)]]) (fun h k => newer_trans h k) (pickD_stable _ ⟨vIs_st, vIs_st, vIs_st, vIs_st, vIs_st, vIs_st, vIs_st, vIs_st, vIs_st, vIs_st, vIs_st, vIs_st, vIs_st, vOne_st, trivial⟩) (Below.refl _ wr).drew (Below.refl _ _) ?_ ?_)
                · refine ⟨?_, ?_, ?_, ?_, ?_, ?_, ?_, ?_, ?_, ?_, ?_, ?_, ?_, ?_, trivial⟩
                  · intro a W hG hR hO hp
                    have h15 := hO.slot 15 (by kernel_rfl)
                    refine wp_yields (v := .pointer (some ⟨wv.heap.size, 3, none⟩)) ?_ ⟨_, rfl, rfl, Below.refl _ _, hG⟩
                    simp [slotOf] at h15
                    simp [execOp, go_sem, h15]
                  · intro a W hG hR hO hp
                    have h88 : slotOf a 88 = .pointer (some ⟨wv.heap.size, 3, none⟩) := hp.1
                    have c0 := keep_cell e2 hG
                    refine wp_yields (v := .slice L3 k lp3) ?_ ⟨_, rfl, rfl, Below.refl _ _, hG⟩
                    simp [slotOf] at h88
                    simp [execOp, go_sem, h88, c0]
                  · intro a W hG hR hO hp
                    have h13 := hO.slot 13 (by kernel_rfl)
                    refine wp_yields (v := .pointer (some ⟨b1, 3, none⟩)) ?_ ⟨_, rfl, rfl, Below.refl _ _, hG⟩
                    simp [slotOf] at h13
                    simp [execOp, go_sem, h13]
                  · intro a W hG hR hO hp
                    have h90 : slotOf a 90 = .pointer (some ⟨b1, 3, none⟩) := hp.1
                    have c0 := keep_cell t2 hG
                    refine wp_yields (v := .slice (some ⟨pb, po, none⟩) rn.length rp) ?_ ⟨_, rfl, rfl, Below.refl _ _, hG⟩
                    simp [slotOf] at h90
                    simp [execOp, go_sem, h90, c0]
                  · intro a W hG hR hO hp
                    have h17 := hO.slot 17 (by kernel_rfl)
                    refine wp_yields (v := .int .i64 k) ?_ ⟨_, rfl, rfl, Below.refl _ _, hG⟩
                    simp [slotOf] at h17
                    simp [execOp, go_sem, h17]
                  · intro a W hG hR hO hp
                    have h91 : slotOf a 91 = .slice (some ⟨pb, po, none⟩) rn.length rp := hp.1
                    have h92 : slotOf a 92 = .int .i64 k := hp.2.1
                    refine wp_yields (v := .pointer (some ⟨pb, po + k, none⟩)) ?_ ⟨_, rfl, rfl, Below.refl _ _, hG⟩
                    simp [slotOf] at h91 h92
                    simp [execOp, go_sem, h91, h92, hkn]
                  · intro a W hG hR hO hp
                    have h93 : slotOf a 93 = .pointer (some ⟨pb, po + k, none⟩) := hp.1
                    have c0 := keep_cell c1 hG
                    refine wp_yields (v := vi x) ?_ ⟨_, rfl, rfl, Below.refl _ _, hG⟩
                    simp [slotOf] at h93
                    simp [execOp, go_sem, h93, c0]
                  · intro a W hG hR hO hp
                    have h14 := hO.slot 14 (by kernel_rfl)
                    refine wp_yields (v := .pointer (some ⟨b2, 3, none⟩)) ?_ ⟨_, rfl, rfl, Below.refl _ _, hG⟩
                    simp [slotOf] at h14
                    simp [execOp, go_sem, h14]
                  · intro a W hG hR hO hp
                    have h95 : slotOf a 95 = .pointer (some ⟨b2, 3, none⟩) := hp.1
                    have c0 := keep_cell q2 hG
                    refine wp_yields (v := .slice (some ⟨pb', po', none⟩) rn'.length rp') ?_ ⟨_, rfl, rfl, Below.refl _ _, hG⟩
                    simp [slotOf] at h95
                    simp [execOp, go_sem, h95, c0]
                  · intro a W hG hR hO hp
                    have h17 := hO.slot 17 (by kernel_rfl)
                    refine wp_yields (v := .int .i64 k) ?_ ⟨_, rfl, rfl, Below.refl _ _, hG⟩
                    simp [slotOf] at h17
                    simp [execOp, go_sem, h17]
                  · intro a W hG hR hO hp
                    have h96 : slotOf a 96 = .slice (some ⟨pb', po', none⟩) rn'.length rp' := hp.1
                    have h97 : slotOf a 97 = .int .i64 k := hp.2.1
                    refine wp_yields (v := .pointer (some ⟨pb', po' + k, none⟩)) ?_ ⟨_, rfl, rfl, Below.refl _ _, hG⟩
                    simp [slotOf] at h96 h97
                    simp [execOp, go_sem, h96, h97, hkn']
                  · intro a W hG hR hO hp
                    have h98 : slotOf a 98 = .pointer (some ⟨pb', po' + k, none⟩) := hp.1
                    have c0 := keep_cell c2 hG
                    refine wp_yields (v := vi y) ?_ ⟨_, rfl, rfl, Below.refl _ _, hG⟩
                    simp [slotOf] at h98
                    simp [execOp, go_sem, h98, c0]
                  · intro a W hG hR hO hp
                    have h94 : slotOf a 94 = vi x := hp.1
                    have h99 : slotOf a 99 = vi y := hp.2.1
                    refine wp_yields (v := vi (mx x y)) ?_ ⟨_, rfl, rfl, Below.refl _ _, hG⟩
                    simp [slotOf] at h94 h99
                    simp [go_sem, h94, h99, mx]
                  · intro a W hG hR hO hp
                    have h100 : slotOf a 100 = vi (mx x y) := hp.1
                    refine wp_makes (v := .slice (some ⟨W.heap.size, 0, none⟩) 1 1) (W' := W.alloc (.cells #[vi (mx x y)] 3)) ?_ ⟨_, rfl, ⟨_, rfl, hG.size, Whole.made _ _ _⟩, (Below.refl _ _).alloc (Nat.le_refl _) _, hG.alloc hG.size _⟩
                    simp [slotOf] at h100
                    simp [execOp, go_sem, h100]
                · intro W hG hR
                  rintro _ rfl _ rfl _ rfl _ rfl _ rfl _ rfl _ rfl _ rfl _ rfl _ rfl _ rfl _ rfl _ rfl _ ⟨nb, rfl, hnb, hW⟩
                  change wpList _ _ _ _ _ _
                  simp only [Act.put, List.setIfInBounds_toArray, List.set_cons_zero, List.set_cons_succ, List.drop_succ_cons, List.drop_zero]
                  obtain ⟨hi0, hz0, hz1, hz2⟩ := HI.out
                  have hw6 := HWR.out.below hG HWR.out.lt
                  have ho6 := own_below HOW.out hG
                  have hl6 := own_below HOL.out hG
                  have hn6 := newer_trans HNR.out hG
                  have hs6 : wl.heap.size ≤ W.heap.size := Nat.le_trans hsz hG.size
                  refine wpList_append_lies _ rfl (.tmp 89) (.tmp 101) 43 rfl wl.heap.size 3 i0 (.int .i64 0) 1 8 Try.underlying43 hi0 hz0 hz1 hz2 rfl (by omega) _ k _ rfl ho6 ⟨nb, 0, none⟩ 1 1 [vi (mx x y)] rfl rfl (World.news_of_block hW) (by simp [Value.oneCell']) (by omega) (by unfold maxLen; omega) (by omega) hs6 W.heap.size rfl ?_
                  intro gg cap w1 hown1 hgrow hat hlt1
                  unfold mxL at hown1
                  rw [snoc_ints (fun i => mx (iAt rn i) (iAt rn' i)) k _ (by rw [HXY.out.1, HXY.out.2])] at hown1
                  have hw7 := hw6.grown hgrow (own_ne ho6 hw6 (by decide)).symm
                  have hn7 := hn6.grown hgrow hn6.size (own_ge (own_more ho6 HSL.out))
                  have hl7 := hl6.kept hgrow (apart_base HAP.out (own_ge ho6))
                  have x2 := hw7.at 3 rfl
                  have f2 := hw7.free 3
                  have HR := Lib.hid (And.intro (hn7.setCell (p := ⟨wv.heap.size, 3, none⟩) (Nat.le_refl _) (.slice (some ⟨gg, 0, none⟩) (k + 1) cap)) (And.intro (hw7.set 3 (.slice (some ⟨gg, 0, none⟩) (k + 1) cap)) (And.intro (own_set (i := 3) hown1 (own_ne hown1 hw7 (by decide)) (.slice (some ⟨gg, 0, none⟩) (k + 1) cap)) (own_set (i := 3) hl7 (own_ne hl7 hw7 (by decide)) (.slice (some ⟨gg, 0, none⟩) (k + 1) cap)))))
                  have hs7 : wl.heap.size ≤ (w1.setCell ⟨wv.heap.size, 3, none⟩ (.slice (some ⟨gg, 0, none⟩) (k + 1) cap)).heap.size := by rw [World.size_setCell]; exact Nat.le_trans hs6 hgrow.size
                  have HS7 := Lib.hid hs7
                  clear hw7 hn7 hl7 hl6 hw6 ho6 hn6 hs6 hs7 hown1 hgrow hat hlt1 hW hnb hG hR hi0 hz0 hz1 hz2 HNR HWR HOW HOL t2 q2 e2 c1 c2
                  go_wp2_with fail
                  go_roundw
                  case rel => exact ⟨k + 1, by omega, by go_num, HR.out.1, HS7.out, _, HR.out.2.1, HR.out.2.2.2, HR.out.2.2.1⟩
                  case measure => simp [intOf]; omega
              · obtain rfl : k = rn.length := by omega
                obtain ⟨LA, lc, rfl⟩ := own_form howl
                obtain ⟨RA, rc, rfl⟩ := own_form hown
                obtain ⟨hl, hhl⟩ : ∃ hl, hl = mxL lv lv' lv.length := ⟨_, rfl⟩
                obtain ⟨hr, hhr⟩ : ∃ hr, hr = mxL rn rn' rn.length := ⟨_, rfl⟩
                obtain ⟨hs, hhs⟩ : ∃ hs, hs = mx sn sn' := ⟨_, rfl⟩
                obtain ⟨ho, hho⟩ : ∃ ho, ho = mx so so' := ⟨_, rfl⟩
                have HEQ := Lib.hid (And.intro hhl (And.intro hhr (And.intro hhs hho)))
                have hll : hl.length = lv.length := by rw [hhl, mxL_len]
                have hrl : hr.length = rn.length := by rw [hhr, mxL_len]
                rw [← hhs, ← hho] at hwr
                rw [← hhl] at howl
                rw [← hhr] at hown
                have hfh : fitsB g days hs ho hl hr = true := by rw [hhs, hho, hhl, hhr]; exact mx_fit HFT.out.1 HFT.out.2
                have hmore : ∀ k, k ≤ days.length → (∀ i, i < g.cells.length → (stR g days sn so lv rn k).f i ≤ (stR g days hs ho hl hr k).f i) ∧ (stR g days sn so lv rn k).snow ≤ (stR g days hs ho hl hr k).snow := by rw [hhs, hho, hhl, hhr]; exact fun k hk => mx_more HFZ.out HFT.out.1 HFT.out.2 hk
                have HMORE := Lib.hid hmore
                have HFH := Lib.hid hfh
                have HTH : Hid (Tb wv.heap.size hs ho hl LA lc hr RA rc wr) := Lib.hid ⟨by rw [hll, hrl]; exact hwr, row_of_own (by omega) (fun _ => rfl) howl, row_of_own (by omega) (fun _ => rfl) hown⟩
                have HT1r := Lib.hid (HT1.out.next hnr)
                have HLr := Lib.hid (HL.out.next hnr)
                clear hhl hhr hhs hho hll hrl hfh hmore howl hown hwr hnr hsz HT1 HT2 HL HAP HSL
                obtain ⟨kk, hkk⟩ : ∃ kk : Nat, cell % (g.cells.length : Int) = kk := ⟨(cell % (g.cells.length : Int)).toNat, by have := Int.emod_nonneg cell (show (g.cells.length : Int) ≠ 0 by omega); omega⟩
                have hkn : (kk : Int) < g.cells.length := by have := Int.emod_lt_of_pos cell (show (0 : Int) < g.cells.length by omega); omega
                have hkl : kk < g.cells.length := by omega
                have hk4 : cell.tmod (g.cells.length : Int) = kk := by rw [Int.tmod_eq_emod_of_nonneg hc0]; exact hkk
                have hk6 : ¬ ((g.cells.length : Int) = 0) := by omega
                have hk7 : IntKind.i64.wrap (kk : Int) = kk := IntWalk.i64_in _ (by omega)
                have hk8 : IntKind.i64.wrap cell = cell := IntWalk.i64_in _ (by omega)
                have g0 := HLr.out.gb.at 0 (v := .slice A g.cells.length cp) rfl
                have t3 := HT1r.out.tb.at 3 (v := .slice R rn.length rp) rfl
                go_wp2_with fail
                clear g0 t3 hk4 hk6 hk7 hk8 hkk
                obtain ⟨c, hck⟩ := get_of_lt hkl
                have hcb := (wayOk_tr HFZ.out HFT.out.1).cells kk hkl
                rw [cAt_of hck] at hcb
                have hp0 := hcb.pump1
                have hp1 := hcb.pump2
                have HCK := Lib.hid (cAt_of hck)
                obtain ⟨gbk, gok, eA, _, _, _, _, _, _, _, c6⟩ := row7 HLr.out.hc hck
                subst eA
                clear hcb hck
                have hw1 : IntKind.i64.wrap more = more := IntWalk.i64_in _ (by omega)
                have hw2 : IntKind.i64.wrap (c.pump + more) = c.pump + more := IntWalk.i64_in _ (by omega)
                have hpm := mn_le 100000 (c.pump + more)
                obtain ⟨pm, hpme⟩ : ∃ pm, pm = mn 100000 (c.pump + more) := ⟨_, rfl⟩
                rw [← hpme] at hpm
                have HPM := Lib.hid hpme
                obtain ⟨wv2, hwv2⟩ : ∃ wv2, wv2 = wr := ⟨_, rfl⟩
                rw [← hwv2] at HTH HT1r HLr c6 ⊢
                clear hwv2 hpme
                obtain ⟨hbk, hhb⟩ : ∃ hbk, hbk = wv.heap.size := ⟨_, rfl⟩
                rw [← hhb] at HTH ⊢
                clear hhb
                have hpa : (cAt g.cells kk).pump ≤ pm := by rw [HCK.out]; omega
                obtain ⟨g', hg'⟩ : ∃ g', g' = withPump g kk pm := ⟨_, rfl⟩
                have HG' := Lib.hid hg'
                have hgl : g'.cells.length = g.cells.length := by rw [hg', withPump_len]
                have HGL := Lib.hid hgl
                have hgn : g'.cells.length ≤ 8 := by omega
                have HFG : Hid (faultN g' days = 0 ∧ fitsB g' days sn so lv rn = true) := Lib.hid (by rw [hg']; exact ⟨fault_pump HFZ.out kk (by omega) (by omega), pump_fit kk pm HFT.out.1⟩)
                have HLESS : Hid (∀ k, k ≤ days.length → ∀ i, i < g.cells.length → (stR g' days sn so lv rn k).f i ≤ (stR g days sn so lv rn k).f i) := Lib.hid (by rw [hg']; exact fun k hk => pump_less kk HFZ.out hkl HFT.out.1 hpa (by omega) (by omega) hk)
                have hlv8 : lv.length ≤ 8 := by have := HLV.out; omega
                have hrn30 : rn.length ≤ 30 := by have := HRN.out; omega
                have hhl8 : hl.length ≤ 8 := by have := (fits_len HFH.out).1; omega
                have hhr30 : hr.length ≤ 30 := by have := (fits_len HFH.out).2; omega
                clear hg' hgl hpa
                have g0 := (HLr.out.gb).at 0 (v := .slice (some ⟨gbk, gok, none⟩) g.cells.length cp) rfl
                have g1 := (HLr.out.gb).at 1 (v := vi g.slo) rfl
                have g2 := (HLr.out.gb).at 2 (v := vi g.shi) rfl
                have g3 := (HLr.out.gb).at 3 (v := vi g.klo) rfl
                have g4 := (HLr.out.gb).at 4 (v := vi g.khi) rfl
                have g5 := (HLr.out.gb).at 5 (v := vi g.melt) rfl
                refine wp_words (by kernel_rfl) (region_told 14 (by kernel_rfl) (by kernel_rfl) (fun W => Below wv2.heap.size wv2 W) newer (pickD [vIs (gndV (some ⟨gbk, gok, none⟩) cp g), vIs (.int .i64 kk), vIs (.pointer (some ⟨w.heap.size, 0, none⟩)), vIs (.slice (some ⟨gbk, gok, none⟩) g.cells.length cp), vIs (.int .i64 kk), vIs (.pointer (some ⟨gbk, gok + kk * 7, none⟩)), vIs (.pointer (some ⟨gbk, gok + kk * 7 + 6, none⟩)), vIs (vi c.pump), vIs (.int .u16 more), vIs (vi more), vIs (vi (c.pump + more)), vIs (vi pm), vGnO g', vNew wv2.heap.size 26 #[.slice none 0 0, vi 0, vi 0, vi 0, vi 0, vi 0]]) (fun h k => newer_trans h k) (pickD_stable _ ⟨vIs_st, vIs_st, vIs_st, vIs_st, vIs_st, vIs_st, vIs_st, vIs_st, vIs_st, vIs_st, vIs_st, vIs_st, vGnO_st, vNew_st, trivial⟩) (Below.refl _ wv2).drew (Below.refl _ _) ?_ ?_)
                · refine ⟨?_, ?_, ?_, ?_, ?_, ?_, ?_, ?_, ?_, ?_, ?_, ?_, ?_, ?_, trivial⟩
                  · intro a W hG hR hO hp
                    have h6 := hO.slot 6 (by kernel_rfl)
                    have c0 := keep_cell g0 hG
                    have c1 := keep_cell g1 hG
                    have c2 := keep_cell g2 hG
                    have c3 := keep_cell g3 hG
                    have c4 := keep_cell g4 hG
                    have c5 := keep_cell g5 hG
                    refine wp_yields (v := gndV (some ⟨gbk, gok, none⟩) cp g) ?_ ⟨_, rfl, rfl, Below.refl _ _, hG⟩
                    simp [slotOf] at h6
                    simp [execOp, go_sem, h6, c0, c1, c2, c3, c4, c5]
                  · intro a W hG hR hO hp
                    have h18 := hO.slot 18 (by kernel_rfl)
                    refine wp_yields (v := .int .i64 kk) ?_ ⟨_, rfl, rfl, Below.refl _ _, hG⟩
                    simp [slotOf] at h18
                    simp [execOp, go_sem, h18]
                  · intro a W hG hR hO hp
                    have h6 := hO.slot 6 (by kernel_rfl)
                    refine wp_yields (v := .pointer (some ⟨w.heap.size, 0, none⟩)) ?_ ⟨_, rfl, rfl, Below.refl _ _, hG⟩
                    simp [slotOf] at h6
                    simp [execOp, go_sem, h6]
                  · intro a W hG hR hO hp
                    have h112 : slotOf a 112 = .pointer (some ⟨w.heap.size, 0, none⟩) := hp.1
                    have c0 := keep_cell g0 hG
                    refine wp_yields (v := .slice (some ⟨gbk, gok, none⟩) g.cells.length cp) ?_ ⟨_, rfl, rfl, Below.refl _ _, hG⟩
                    simp [slotOf] at h112
                    simp [execOp, go_sem, h112, c0]
                  · intro a W hG hR hO hp
                    have h18 := hO.slot 18 (by kernel_rfl)
                    refine wp_yields (v := .int .i64 kk) ?_ ⟨_, rfl, rfl, Below.refl _ _, hG⟩
                    simp [slotOf] at h18
                    simp [execOp, go_sem, h18]
                  · intro a W hG hR hO hp
                    have h113 : slotOf a 113 = .slice (some ⟨gbk, gok, none⟩) g.cells.length cp := hp.1
                    have h114 : slotOf a 114 = .int .i64 kk := hp.2.1
                    refine wp_yields (v := .pointer (some ⟨gbk, gok + kk * 7, none⟩)) ?_ ⟨_, rfl, rfl, Below.refl _ _, hG⟩
                    simp [slotOf] at h113 h114
                    simp [execOp, go_sem, h113, h114, hkn]
                  · intro a W hG hR hO hp
                    have h115 : slotOf a 115 = .pointer (some ⟨gbk, gok + kk * 7, none⟩) := hp.1
                    refine wp_yields (v := .pointer (some ⟨gbk, gok + kk * 7 + 6, none⟩)) ?_ ⟨_, rfl, rfl, Below.refl _ _, hG⟩
                    simp [slotOf] at h115
                    simp [execOp, go_sem, h115]
                  · intro a W hG hR hO hp
                    have h116 : slotOf a 116 = .pointer (some ⟨gbk, gok + kk * 7 + 6, none⟩) := hp.1
                    have c0 := keep_cell c6 hG
                    refine wp_yields (v := vi c.pump) ?_ ⟨_, rfl, rfl, Below.refl _ _, hG⟩
                    simp [slotOf] at h116
                    simp [execOp, go_sem, h116, c0]
                  · intro a W hG hR hO hp
                    have h5 := hO.slot 5 (by kernel_rfl)
                    refine wp_yields (v := .int .u16 more) ?_ ⟨_, rfl, rfl, Below.refl _ _, hG⟩
                    simp [slotOf] at h5
                    simp [execOp, go_sem, h5]
                  · intro a W hG hR hO hp
                    have h118 : slotOf a 118 = .int .u16 more := hp.1
                    refine wp_yields (v := vi more) ?_ ⟨_, rfl, rfl, Below.refl _ _, hG⟩
                    simp [slotOf] at h118
                    simp [execOp, go_sem, h118, hw1]
                  · intro a W hG hR hO hp
                    have h117 : slotOf a 117 = vi c.pump := hp.1
                    have h119 : slotOf a 119 = vi more := hp.2.1
                    refine wp_yields (v := vi (c.pump + more)) ?_ ⟨_, rfl, rfl, Below.refl _ _, hG⟩
                    simp [slotOf] at h117 h119
                    simp [execOp, go_sem, h117, h119, hw2]
                  · intro a W hG hR hO hp
                    have h120 : slotOf a 120 = vi (c.pump + more) := hp.1
                    refine wp_yields (v := vi pm) ?_ ⟨_, rfl, rfl, Below.refl _ _, hG⟩
                    simp [slotOf] at h120
                    simp [go_sem, h120, HPM.out, mn]
                  · intro a W hG hR hO hp
                    have h110 : slotOf a 110 = gndV (some ⟨gbk, gok, none⟩) cp g := hp.1
                    have h111 : slotOf a 111 = .int .i64 kk := hp.2.1
                    have h121 : slotOf a 121 = vi pm := hp.2.2.1
                    refine wp_enters (f := 40) (args := #[gndV (some ⟨gbk, gok, none⟩) cp g, .int .i64 kk, vi pm]) ?_ ((refWith_own g (some ⟨gbk, gok, none⟩) cp kk pm W (by omega) hkl (HLr.out.next hG).hc).mono ?_)
                    · simp [slotOf] at h110 h111 h121
                      simp [go_sem, h110, h111, h121]
                    · rintro e w' ⟨⟨v, rfl, hv⟩, hb⟩
                      exact ⟨_, rfl, _, rfl, (by rw [HG'.out]; exact hv), hb, below_next hG hb⟩
                  · intro a W hG hR hO hp
                    refine wp_makes (v := .pointer (some ⟨W.heap.size, 0, none⟩)) (W' := W.alloc (.cells #[.slice none 0 0, vi 0, vi 0, vi 0, vi 0, vi 0] 26)) ?_ ⟨_, rfl, ⟨_, rfl, hG.size, Whole.made _ _ _⟩, (Below.refl _ _).alloc (Nat.le_refl _) _, hG.alloc hG.size _⟩
                    skip
                    simp [execOp, go_sem]
                · intro W hG hR
                  rintro _ rfl _ rfl _ rfl _ rfl _ rfl _ rfl _ rfl _ rfl _ rfl _ rfl _ rfl _ rfl _ ⟨bs3, A3, cz, rfl, hown3⟩ _ ⟨pb, rfl, hpb, hwp⟩
                  change wpList _ _ _ _ _ _
                  simp only [Act.put, List.setIfInBounds_toArray, List.set_cons_zero, List.set_cons_succ, List.drop_succ_cons, List.drop_zero]
                  have HOW := Lib.hid hown3
                  have HWP := Lib.hid hwp
                  have HN := Lib.hid (And.intro hG hpb)
                  have x0 := hwp.at 0 rfl
                  have x1 := hwp.at 1 rfl
                  have x2 := hwp.at 2 rfl
                  have x3 := hwp.at 3 rfl
                  have x4 := hwp.at 4 rfl
                  have x5 := hwp.at 5 rfl
                  have f0 := hwp.free 0
                  have f1 := hwp.free 1
                  have f2 := hwp.free 2
                  have f3 := hwp.free 3
                  have f4 := hwp.free 4
                  have f5 := hwp.free 5
                  clear hG hR hown3 hwp hpb g0 g1 g2 g3 g4 g5 c6
                  go_upto_region 15 with fail
                  have hnw := putG_below HN.out.1 HN.out.2 (.slice A3 g'.cells.length cz) (vi g'.slo) (vi g'.shi) (vi g'.klo) (vi g'.khi) (vi g'.melt)
                  refine genQ (fun X => Lw w g (some ⟨gbk, gok, none⟩) cp days D X ∧ Tb b1 sn so lv L lp rn R rp X ∧ Tb hbk hs ho hl LA lc hr RA rc X ∧ Gw pb g' A3 cz X) ⟨HLr.out.next hnw, HT1r.out.next hnw, HTH.out.next hnw, putG_whole HWP.out _ _ _ _ _ _, row_of_own (by omega) (fun _ => rfl) (putG_own HOW.out HWP.out (by decide) _ _ _ _ _ _)⟩ ?_
                  clear hnw HLr HT1r HTH HOW HWP HN x0 x1 x2 x3 x4 x5 f0 f1 f2 f3 f4 f5
                  rintro wv ⟨j1, j2, j3, j4⟩
                  have HL := Lib.hid j1
                  have HT := Lib.hid j2
                  have HTH := Lib.hid j3
                  have HP := Lib.hid j4
                  clear j1 j2 j3 j4
                  have g0 := (HL.out.gb).at 0 (v := .slice (some ⟨gbk, gok, none⟩) g.cells.length cp) rfl
                  have g1 := (HL.out.gb).at 1 (v := vi g.slo) rfl
                  have g2 := (HL.out.gb).at 2 (v := vi g.shi) rfl
                  have g3 := (HL.out.gb).at 3 (v := vi g.klo) rfl
                  have g4 := (HL.out.gb).at 4 (v := vi g.khi) rfl
                  have g5 := (HL.out.gb).at 5 (v := vi g.melt) rfl
                  have t0 := (HT.out.tb).at 0 (v := vi sn) rfl
                  have t1 := (HT.out.tb).at 1 (v := vi so) rfl
                  have t2 := (HT.out.tb).at 2 (v := .slice L lv.length lp) rfl
                  have t3 := (HT.out.tb).at 3 (v := .slice R rn.length rp) rfl
                  go_wp2_with fail
                  refine wp_words (by kernel_rfl) (region_told 15 (by kernel_rfl) (by kernel_rfl) (fun W => Below wv.heap.size wv W) newer (pickD [vIs (gndV (some ⟨gbk, gok, none⟩) cp g), vGn g, vIs (.slice D days.length dp), vDy days, vIs (truthV sn so L lv.length lp R rn.length rp), vTr sn so lv rn, vRun g days sn so lv rn, vRun g days sn so lv rn, vT1 g.cells.length days.length (fun j i => (stR g days sn so lv rn (j + 1)).f i), vT2 days.length (fun j => (stR g days sn so lv rn (j + 1)).left), vIs (vi (stR g days sn so lv rn days.length).snow), vIs (vi 0), vT1 g.cells.length days.length (fun j i => (stR g days sn so lv rn (j + 1)).f i), vT2 days.length (fun j => (stR g days sn so lv rn (j + 1)).left), vIs (vi (stR g days sn so lv rn days.length).snow)]) (fun h k => newer_trans h k) (pickD_stable _ ⟨vIs_st, vGn_st, vIs_st, vDy_st, vIs_st, vTr_st, vRun_st, vRun_st, vT1_st, vT2_st, vIs_st, vIs_st, vT1_st, vT2_st, vIs_st, trivial⟩) (Below.refl _ wv).drew (Below.refl _ _) ?_ ?_)
                  · refine ⟨?_, ?_, ?_, ?_, ?_, ?_, ?_, ?_, ?_, ?_, ?_, ?_, ?_, ?_, ?_, trivial⟩
                    · intro a W hG hR hO hp
                      have h6 := hO.slot 6 (by kernel_rfl)
                      have c0 := keep_cell g0 hG
                      have c1 := keep_cell g1 hG
                      have c2 := keep_cell g2 hG
                      have c3 := keep_cell g3 hG
                      have c4 := keep_cell g4 hG
                      have c5 := keep_cell g5 hG
                      refine wp_yields (v := gndV (some ⟨gbk, gok, none⟩) cp g) ?_ ⟨_, rfl, rfl, Below.refl _ _, hG⟩
                      simp [slotOf] at h6
                      simp [execOp, go_sem, h6, c0, c1, c2, c3, c4, c5]
                    · intro a W hG hR hO hp
                      have h124 : slotOf a 124 = gndV (some ⟨gbk, gok, none⟩) cp g := hp.1
                      refine wp_enters (f := 19) (args := #[gndV (some ⟨gbk, gok, none⟩) cp g]) ?_ ((lawGround g (some ⟨gbk, gok, none⟩) cp W (by omega) (HL.out.next hG).hc).mono ?_)
                      · simp [slotOf] at h124
                        simp [go_sem, h124]
                      · rintro e w' ⟨Ax, cx, rfl, h2, hb⟩
                        exact ⟨_, rfl, _, rfl, ⟨Ax, cx, rfl, h2⟩, hb, below_next hG hb⟩
                    · intro a W hG hR hO hp
                      have h1 := hO.slot 1 (by kernel_rfl)
                      refine wp_yields (v := .slice D days.length dp) ?_ ⟨_, rfl, rfl, Below.refl _ _, hG⟩
                      simp [slotOf] at h1
                      simp [execOp, go_sem, h1]
                    · intro a W hG hR hO hp
                      have h126 : slotOf a 126 = .slice D days.length dp := hp.1
                      refine wp_enters (f := 20) (args := #[.slice D days.length dp]) ?_ ((lawDays days D dp W (by omega) (HL.out.next hG).hd).mono ?_)
                      · simp [slotOf] at h126
                        simp [go_sem, h126]
                      · rintro e w' ⟨Ax, cx, rfl, h2, hb⟩
                        exact ⟨_, rfl, _, rfl, ⟨Ax, cx, rfl, h2⟩, hb, below_next hG hb⟩
                    · intro a W hG hR hO hp
                      have h13 := hO.slot 13 (by kernel_rfl)
                      have c0 := keep_cell t0 hG
                      have c1 := keep_cell t1 hG
                      have c2 := keep_cell t2 hG
                      have c3 := keep_cell t3 hG
                      refine wp_yields (v := truthV sn so L lv.length lp R rn.length rp) ?_ ⟨_, rfl, rfl, Below.refl _ _, hG⟩
                      simp [slotOf] at h13
                      simp [execOp, go_sem, h13, c0, c1, c2, c3]
                    · intro a W hG hR hO hp
                      have h128 : slotOf a 128 = truthV sn so L lv.length lp R rn.length rp := hp.1
                      refine wp_enters (f := 33) (args := #[truthV sn so L lv.length lp R rn.length rp]) ?_ ((lawTruth sn so lv rn L lp R rp W (by omega) (by omega) (HT.out.next hG).hl (HT.out.next hG).hr).mono ?_)
                      · simp [slotOf] at h128
                        simp [go_sem, h128]
                      · rintro e w' ⟨⟨vx, rfl, hv⟩, hb⟩
                        exact ⟨_, rfl, _, rfl, hv, hb, below_next hG hb⟩
                    · intro a W hG hR hO hp
                      have h125 := hp.1
                      have h127 := hp.2.1
                      have h129 := hp.2.2.1
                      obtain ⟨Ag, cg, h125, hrg⟩ := h125
                      obtain ⟨Ad, cd, h127, hrd⟩ := h127
                      obtain ⟨Lt, lt, Rt, rt, h129, hrl, hrr⟩ := h129
                      refine wp_enters (f := 32) (args := #[gndV Ag cg g, .slice Ad days.length cd, truthV sn so Lt lv.length lt Rt rn.length rt]) ?_ ((run_yes g Ag cg days Ad cd sn so lv Lt lt rn Rt rt W (by omega) (by omega) (by omega) (by omega) hrg hrd hrl hrr (runN_ok HFZ.out HFT.out.1)).mono ?_)
                      · simp [slotOf] at h125 h127 h129
                        simp [go_sem, h125, h127, h129]
                      · rintro e w' ⟨⟨vx, rfl, hv⟩, hb⟩
                        exact ⟨_, rfl, _, rfl, hv, hb, below_next hG hb⟩
                    · intro a W hG hR hO hp
                      have h130 := hp.1
                      obtain ⟨v1, v2, h130, hv1, hv2⟩ := h130
                      refine wp_yields (v := .tuple #[v1, v2, vi (stR g days sn so lv rn days.length).snow, vi 0]) ?_ ⟨_, rfl, ⟨v1, v2, rfl, hv1, hv2⟩, Below.refl _ _, hG⟩
                      simp [slotOf] at h130
                      simp [execOp, go_sem, h130]
                    · intro a W hG hR hO hp
                      have h123 := hp.1
                      obtain ⟨v1, v2, h123, hv1, hv2⟩ := h123
                      refine wp_yields (v := v1) ?_ ⟨_, rfl, hv1, Below.refl _ _, hG⟩
                      simp [slotOf] at h123
                      simp [execOp, go_sem, h123]
                    · intro a W hG hR hO hp
                      have h123 := hp.1
                      obtain ⟨v1, v2, h123, hv1, hv2⟩ := h123
                      refine wp_yields (v := v2) ?_ ⟨_, rfl, hv2, Below.refl _ _, hG⟩
                      simp [slotOf] at h123
                      simp [execOp, go_sem, h123]
                    · intro a W hG hR hO hp
                      have h123 := hp.1
                      obtain ⟨v1, v2, h123, hv1, hv2⟩ := h123
                      refine wp_yields (v := vi (stR g days sn so lv rn days.length).snow) ?_ ⟨_, rfl, rfl, Below.refl _ _, hG⟩
                      simp [slotOf] at h123
                      simp [execOp, go_sem, h123]
                    · intro a W hG hR hO hp
                      have h123 := hp.1
                      obtain ⟨v1, v2, h123, hv1, hv2⟩ := h123
                      refine wp_yields (v := vi 0) ?_ ⟨_, rfl, rfl, Below.refl _ _, hG⟩
                      simp [slotOf] at h123
                      simp [execOp, go_sem, h123]
                    · intro a W hG hR hO hp
                      have h131 := hp.1
                      obtain ⟨Qx, cqx, Ax, cx, bx, h131, hq1, hq2⟩ := h131
                      refine wp_yields (v := .slice Qx days.length cqx) ?_ ⟨_, rfl, ⟨Qx, cqx, Ax, cx, bx, rfl, hq1, hq2⟩, Below.refl _ _, hG⟩
                      simp [slotOf] at h131
                      simp [execOp, go_sem, h131]
                    · intro a W hG hR hO hp
                      have h132 := hp.1
                      obtain ⟨Qx, cqx, bx, h132, hq1⟩ := h132
                      refine wp_yields (v := .slice Qx days.length cqx) ?_ ⟨_, rfl, ⟨Qx, cqx, bx, rfl, hq1⟩, Below.refl _ _, hG⟩
                      simp [slotOf] at h132
                      simp [execOp, go_sem, h132]
                    · intro a W hG hR hO hp
                      have h133 : slotOf a 133 = vi (stR g days sn so lv rn days.length).snow := hp.1
                      refine wp_yields (v := vi (stR g days sn so lv rn days.length).snow) ?_ ⟨_, rfl, rfl, Below.refl _ _, hG⟩
                      simp [slotOf] at h133
                      simp [execOp, go_sem, h133]
                  · intro W hG hR
                    rintro _ rfl _ ⟨_, _, rfl, -⟩ _ rfl _ ⟨_, _, rfl, -⟩ _ rfl _ ⟨_, _, _, _, rfl, -, -⟩ _ ⟨_, _, rfl, -, -⟩ _ ⟨_, _, rfl, -, -⟩ _ ⟨_, _, _, _, _, rfl, -, -⟩ _ ⟨_, _, _, rfl, -⟩ _ rfl _ rfl _ ⟨Q1, cq1, Af1, cf1, bs1, rfl, hT1, hR1⟩ _ ⟨_, _, _, rfl, -⟩ _ rfl
                    change wpList _ _ _ _ _ _
                    simp only [Act.put, List.setIfInBounds_toArray, List.set_cons_zero, List.set_cons_succ, List.drop_succ_cons, List.drop_zero]
                    have HL' := Lib.hid (HL.out.next hG)
                    have HT' := Lib.hid (HT.out.next hG)
                    have HTH' := Lib.hid (HTH.out.next hG)
                    have HP' := Lib.hid (HP.out.next hG)
                    have HXA := Lib.hid (show vT1 g.cells.length days.length (fun j i => (stR g days sn so lv rn (j + 1)).f i) (.slice Q1 days.length cq1) _ from ⟨Q1, cq1, Af1, cf1, bs1, rfl, hT1, hR1⟩)
                    clear hG hR hT1 hR1 HL HT HTH HP g0 g1 g2 g3 g4 g5 t0 t1 t2 t3
                    obtain ⟨wv, hwv⟩ : ∃ wv, wv = W := ⟨_, rfl⟩
                    rw [← hwv] at HL' HT' HTH' HP' HXA ⊢
                    clear hwv W
                    have HL := HL'
                    clear HL'
                    have g0 := (HL.out.gb).at 0 (v := .slice (some ⟨gbk, gok, none⟩) g.cells.length cp) rfl
                    have g1 := (HL.out.gb).at 1 (v := vi g.slo) rfl
                    have g2 := (HL.out.gb).at 2 (v := vi g.shi) rfl
                    have g3 := (HL.out.gb).at 3 (v := vi g.klo) rfl
                    have g4 := (HL.out.gb).at 4 (v := vi g.khi) rfl
                    have g5 := (HL.out.gb).at 5 (v := vi g.melt) rfl
                    have t0 := (HTH'.out.tb).at 0 (v := vi hs) rfl
                    have t1 := (HTH'.out.tb).at 1 (v := vi ho) rfl
                    have t2 := (HTH'.out.tb).at 2 (v := .slice LA hl.length lc) rfl
                    have t3 := (HTH'.out.tb).at 3 (v := .slice RA hr.length rc) rfl
                    go_wp2_with fail
                    refine wp_words (by kernel_rfl) (region_told 15 (by kernel_rfl) (by kernel_rfl) (fun W => Below wv.heap.size wv W) newer (pickD [vIs (gndV (some ⟨gbk, gok, none⟩) cp g), vGn g, vIs (.slice D days.length dp), vDy days, vIs (truthV hs ho LA hl.length lc RA hr.length rc), vTr hs ho hl hr, vRun g days hs ho hl hr, vRun g days hs ho hl hr, vT1 g.cells.length days.length (fun j i => (stR g days hs ho hl hr (j + 1)).f i), vT2 days.length (fun j => (stR g days hs ho hl hr (j + 1)).left), vIs (vi (stR g days hs ho hl hr days.length).snow), vIs (vi 0), vT1 g.cells.length days.length (fun j i => (stR g days hs ho hl hr (j + 1)).f i), vT2 days.length (fun j => (stR g days hs ho hl hr (j + 1)).left), vIs (vi (stR g days hs ho hl hr days.length).snow)]) (fun h k => newer_trans h k) (pickD_stable _ ⟨vIs_st, vGn_st, vIs_st, vDy_st, vIs_st, vTr_st, vRun_st, vRun_st, vT1_st, vT2_st, vIs_st, vIs_st, vT1_st, vT2_st, vIs_st, trivial⟩) (Below.refl _ wv).drew (Below.refl _ _) ?_ ?_)
                    · refine ⟨?_, ?_, ?_, ?_, ?_, ?_, ?_, ?_, ?_, ?_, ?_, ?_, ?_, ?_, ?_, trivial⟩
                      · intro a W hG hR hO hp
                        have h6 := hO.slot 6 (by kernel_rfl)
                        have c0 := keep_cell g0 hG
                        have c1 := keep_cell g1 hG
                        have c2 := keep_cell g2 hG
                        have c3 := keep_cell g3 hG
                        have c4 := keep_cell g4 hG
                        have c5 := keep_cell g5 hG
                        refine wp_yields (v := gndV (some ⟨gbk, gok, none⟩) cp g) ?_ ⟨_, rfl, rfl, Below.refl _ _, hG⟩
                        simp [slotOf] at h6
                        simp [execOp, go_sem, h6, c0, c1, c2, c3, c4, c5]
                      · intro a W hG hR hO hp
                        have h136 : slotOf a 136 = gndV (some ⟨gbk, gok, none⟩) cp g := hp.1
                        refine wp_enters (f := 19) (args := #[gndV (some ⟨gbk, gok, none⟩) cp g]) ?_ ((lawGround g (some ⟨gbk, gok, none⟩) cp W (by omega) (HL.out.next hG).hc).mono ?_)
                        · simp [slotOf] at h136
                          simp [go_sem, h136]
                        · rintro e w' ⟨Ax, cx, rfl, h2, hb⟩
                          exact ⟨_, rfl, _, rfl, ⟨Ax, cx, rfl, h2⟩, hb, below_next hG hb⟩
                      · intro a W hG hR hO hp
                        have h1 := hO.slot 1 (by kernel_rfl)
                        refine wp_yields (v := .slice D days.length dp) ?_ ⟨_, rfl, rfl, Below.refl _ _, hG⟩
                        simp [slotOf] at h1
                        simp [execOp, go_sem, h1]
                      · intro a W hG hR hO hp
                        have h138 : slotOf a 138 = .slice D days.length dp := hp.1
                        refine wp_enters (f := 20) (args := #[.slice D days.length dp]) ?_ ((lawDays days D dp W (by omega) (HL.out.next hG).hd).mono ?_)
                        · simp [slotOf] at h138
                          simp [go_sem, h138]
                        · rintro e w' ⟨Ax, cx, rfl, h2, hb⟩
                          exact ⟨_, rfl, _, rfl, ⟨Ax, cx, rfl, h2⟩, hb, below_next hG hb⟩
                      · intro a W hG hR hO hp
                        have h15 := hO.slot 15 (by kernel_rfl)
                        have c0 := keep_cell t0 hG
                        have c1 := keep_cell t1 hG
                        have c2 := keep_cell t2 hG
                        have c3 := keep_cell t3 hG
                        refine wp_yields (v := truthV hs ho LA hl.length lc RA hr.length rc) ?_ ⟨_, rfl, rfl, Below.refl _ _, hG⟩
                        simp [slotOf] at h15
                        simp [execOp, go_sem, h15, c0, c1, c2, c3]
                      · intro a W hG hR hO hp
                        have h140 : slotOf a 140 = truthV hs ho LA hl.length lc RA hr.length rc := hp.1
                        refine wp_enters (f := 33) (args := #[truthV hs ho LA hl.length lc RA hr.length rc]) ?_ ((lawTruth hs ho hl hr LA lc RA rc W (by omega) (by omega) (HTH'.out.next hG).hl (HTH'.out.next hG).hr).mono ?_)
                        · simp [slotOf] at h140
                          simp [go_sem, h140]
                        · rintro e w' ⟨⟨vx, rfl, hv⟩, hb⟩
                          exact ⟨_, rfl, _, rfl, hv, hb, below_next hG hb⟩
                      · intro a W hG hR hO hp
                        have h137 := hp.1
                        have h139 := hp.2.1
                        have h141 := hp.2.2.1
                        obtain ⟨Ag, cg, h137, hrg⟩ := h137
                        obtain ⟨Ad, cd, h139, hrd⟩ := h139
                        obtain ⟨Lt, lt, Rt, rt, h141, hrl, hrr⟩ := h141
                        refine wp_enters (f := 32) (args := #[gndV Ag cg g, .slice Ad days.length cd, truthV hs ho Lt hl.length lt Rt hr.length rt]) ?_ ((run_yes g Ag cg days Ad cd hs ho hl Lt lt hr Rt rt W (by omega) (by omega) (by omega) (by omega) hrg hrd hrl hrr (runN_ok HFZ.out HFH.out)).mono ?_)
                        · simp [slotOf] at h137 h139 h141
                          simp [go_sem, h137, h139, h141]
                        · rintro e w' ⟨⟨vx, rfl, hv⟩, hb⟩
                          exact ⟨_, rfl, _, rfl, hv, hb, below_next hG hb⟩
                      · intro a W hG hR hO hp
                        have h142 := hp.1
                        obtain ⟨v1, v2, h142, hv1, hv2⟩ := h142
                        refine wp_yields (v := .tuple #[v1, v2, vi (stR g days hs ho hl hr days.length).snow, vi 0]) ?_ ⟨_, rfl, ⟨v1, v2, rfl, hv1, hv2⟩, Below.refl _ _, hG⟩
                        simp [slotOf] at h142
                        simp [execOp, go_sem, h142]
                      · intro a W hG hR hO hp
                        have h135 := hp.1
                        obtain ⟨v1, v2, h135, hv1, hv2⟩ := h135
                        refine wp_yields (v := v1) ?_ ⟨_, rfl, hv1, Below.refl _ _, hG⟩
                        simp [slotOf] at h135
                        simp [execOp, go_sem, h135]
                      · intro a W hG hR hO hp
                        have h135 := hp.1
                        obtain ⟨v1, v2, h135, hv1, hv2⟩ := h135
                        refine wp_yields (v := v2) ?_ ⟨_, rfl, hv2, Below.refl _ _, hG⟩
                        simp [slotOf] at h135
                        simp [execOp, go_sem, h135]
                      · intro a W hG hR hO hp
                        have h135 := hp.1
                        obtain ⟨v1, v2, h135, hv1, hv2⟩ := h135
                        refine wp_yields (v := vi (stR g days hs ho hl hr days.length).snow) ?_ ⟨_, rfl, rfl, Below.refl _ _, hG⟩
                        simp [slotOf] at h135
                        simp [execOp, go_sem, h135]
                      · intro a W hG hR hO hp
                        have h135 := hp.1
                        obtain ⟨v1, v2, h135, hv1, hv2⟩ := h135
                        refine wp_yields (v := vi 0) ?_ ⟨_, rfl, rfl, Below.refl _ _, hG⟩
                        simp [slotOf] at h135
                        simp [execOp, go_sem, h135]
                      · intro a W hG hR hO hp
                        have h143 := hp.1
                        obtain ⟨Qx, cqx, Ax, cx, bx, h143, hq1, hq2⟩ := h143
                        refine wp_yields (v := .slice Qx days.length cqx) ?_ ⟨_, rfl, ⟨Qx, cqx, Ax, cx, bx, rfl, hq1, hq2⟩, Below.refl _ _, hG⟩
                        simp [slotOf] at h143
                        simp [execOp, go_sem, h143]
                      · intro a W hG hR hO hp
                        have h144 := hp.1
                        obtain ⟨Qx, cqx, bx, h144, hq1⟩ := h144
                        refine wp_yields (v := .slice Qx days.length cqx) ?_ ⟨_, rfl, ⟨Qx, cqx, bx, rfl, hq1⟩, Below.refl _ _, hG⟩
                        simp [slotOf] at h144
                        simp [execOp, go_sem, h144]
                      · intro a W hG hR hO hp
                        have h145 : slotOf a 145 = vi (stR g days hs ho hl hr days.length).snow := hp.1
                        refine wp_yields (v := vi (stR g days hs ho hl hr days.length).snow) ?_ ⟨_, rfl, rfl, Below.refl _ _, hG⟩
                        simp [slotOf] at h145
                        simp [execOp, go_sem, h145]
                    · intro W hG hR
                      rintro _ rfl _ ⟨_, _, rfl, -⟩ _ rfl _ ⟨_, _, rfl, -⟩ _ rfl _ ⟨_, _, _, _, rfl, -, -⟩ _ ⟨_, _, rfl, -, -⟩ _ ⟨_, _, rfl, -, -⟩ _ ⟨_, _, _, _, _, rfl, -, -⟩ _ ⟨_, _, _, rfl, -⟩ _ rfl _ rfl _ ⟨Q2, cq2, Af2, cf2, bs2, rfl, hT2, hR2⟩ _ ⟨_, _, _, rfl, -⟩ _ rfl
                      change wpList _ _ _ _ _ _
                      simp only [Act.put, List.setIfInBounds_toArray, List.set_cons_zero, List.set_cons_succ, List.drop_succ_cons, List.drop_zero]
                      have HL' := Lib.hid (HL.out.next hG)
                      have HT2 := Lib.hid (HT'.out.next hG)
                      have HP2 := Lib.hid (HP'.out.next hG)
                      have HXA' := Lib.hid (vT1_st _ _ _ HXA.out hG)
                      have HXB := Lib.hid (show vT1 g.cells.length days.length (fun j i => (stR g days hs ho hl hr (j + 1)).f i) (.slice Q2 days.length cq2) _ from ⟨Q2, cq2, Af2, cf2, bs2, rfl, hT2, hR2⟩)
                      clear hG hR hT2 hR2 HL HT' HTH' HP' HXA g0 g1 g2 g3 g4 g5 t0 t1 t2 t3
                      obtain ⟨wv, hwv⟩ : ∃ wv, wv = W := ⟨_, rfl⟩
                      rw [← hwv] at HL' HT2 HP2 HXA' HXB ⊢
                      clear hwv W
                      have HL := HL'
                      clear HL'
                      have g0 := (HP2.out.gb).at 0 (v := .slice A3 g'.cells.length cz) rfl
                      have g1 := (HP2.out.gb).at 1 (v := vi g'.slo) rfl
                      have g2 := (HP2.out.gb).at 2 (v := vi g'.shi) rfl
                      have g3 := (HP2.out.gb).at 3 (v := vi g'.klo) rfl
                      have g4 := (HP2.out.gb).at 4 (v := vi g'.khi) rfl
                      have g5 := (HP2.out.gb).at 5 (v := vi g'.melt) rfl
                      have t0 := (HT2.out.tb).at 0 (v := vi sn) rfl
                      have t1 := (HT2.out.tb).at 1 (v := vi so) rfl
                      have t2 := (HT2.out.tb).at 2 (v := .slice L lv.length lp) rfl
                      have t3 := (HT2.out.tb).at 3 (v := .slice R rn.length rp) rfl
                      go_wp2_with fail
                      refine wp_words (by kernel_rfl) (region_told 15 (by kernel_rfl) (by kernel_rfl) (fun W => Below wv.heap.size wv W) newer (pickD [vIs (gndV A3 cz g'), vGn g', vIs (.slice D days.length dp), vDy days, vIs (truthV sn so L lv.length lp R rn.length rp), vTr sn so lv rn, vRun g' days sn so lv rn, vRun g' days sn so lv rn, vT1 g'.cells.length days.length (fun j i => (stR g' days sn so lv rn (j + 1)).f i), vT2 days.length (fun j => (stR g' days sn so lv rn (j + 1)).left), vIs (vi (stR g' days sn so lv rn days.length).snow), vIs (vi 0), vT1 g'.cells.length days.length (fun j i => (stR g' days sn so lv rn (j + 1)).f i), vT2 days.length (fun j => (stR g' days sn so lv rn (j + 1)).left), vIs (vi (stR g' days sn so lv rn days.length).snow)]) (fun h k => newer_trans h k) (pickD_stable _ ⟨vIs_st, vGn_st, vIs_st, vDy_st, vIs_st, vTr_st, vRun_st, vRun_st, vT1_st, vT2_st, vIs_st, vIs_st, vT1_st, vT2_st, vIs_st, trivial⟩) (Below.refl _ wv).drew (Below.refl _ _) ?_ ?_)
                      · refine ⟨?_, ?_, ?_, ?_, ?_, ?_, ?_, ?_, ?_, ?_, ?_, ?_, ?_, ?_, ?_, trivial⟩
                        · intro a W hG hR hO hp
                          have h19 := hO.slot 19 (by kernel_rfl)
                          have c0 := keep_cell g0 hG
                          have c1 := keep_cell g1 hG
                          have c2 := keep_cell g2 hG
                          have c3 := keep_cell g3 hG
                          have c4 := keep_cell g4 hG
                          have c5 := keep_cell g5 hG
                          refine wp_yields (v := gndV A3 cz g') ?_ ⟨_, rfl, rfl, Below.refl _ _, hG⟩
                          simp [slotOf] at h19
                          simp [execOp, go_sem, h19, c0, c1, c2, c3, c4, c5]
                        · intro a W hG hR hO hp
                          have h148 : slotOf a 148 = gndV A3 cz g' := hp.1
                          refine wp_enters (f := 19) (args := #[gndV A3 cz g']) ?_ ((lawGround g' A3 cz W (by omega) (HP2.out.next hG).hc).mono ?_)
                          · simp [slotOf] at h148
                            simp [go_sem, h148]
                          · rintro e w' ⟨Ax, cx, rfl, h2, hb⟩
                            exact ⟨_, rfl, _, rfl, ⟨Ax, cx, rfl, h2⟩, hb, below_next hG hb⟩
                        · intro a W hG hR hO hp
                          have h1 := hO.slot 1 (by kernel_rfl)
                          refine wp_yields (v := .slice D days.length dp) ?_ ⟨_, rfl, rfl, Below.refl _ _, hG⟩
                          simp [slotOf] at h1
                          simp [execOp, go_sem, h1]
                        · intro a W hG hR hO hp
                          have h150 : slotOf a 150 = .slice D days.length dp := hp.1
                          refine wp_enters (f := 20) (args := #[.slice D days.length dp]) ?_ ((lawDays days D dp W (by omega) (HL.out.next hG).hd).mono ?_)
                          · simp [slotOf] at h150
                            simp [go_sem, h150]
                          · rintro e w' ⟨Ax, cx, rfl, h2, hb⟩
                            exact ⟨_, rfl, _, rfl, ⟨Ax, cx, rfl, h2⟩, hb, below_next hG hb⟩
                        · intro a W hG hR hO hp
                          have h13 := hO.slot 13 (by kernel_rfl)
                          have c0 := keep_cell t0 hG
                          have c1 := keep_cell t1 hG
                          have c2 := keep_cell t2 hG
                          have c3 := keep_cell t3 hG
                          refine wp_yields (v := truthV sn so L lv.length lp R rn.length rp) ?_ ⟨_, rfl, rfl, Below.refl _ _, hG⟩
                          simp [slotOf] at h13
                          simp [execOp, go_sem, h13, c0, c1, c2, c3]
                        · intro a W hG hR hO hp
                          have h152 : slotOf a 152 = truthV sn so L lv.length lp R rn.length rp := hp.1
                          refine wp_enters (f := 33) (args := #[truthV sn so L lv.length lp R rn.length rp]) ?_ ((lawTruth sn so lv rn L lp R rp W (by omega) (by omega) (HT2.out.next hG).hl (HT2.out.next hG).hr).mono ?_)
                          · simp [slotOf] at h152
                            simp [go_sem, h152]
                          · rintro e w' ⟨⟨vx, rfl, hv⟩, hb⟩
                            exact ⟨_, rfl, _, rfl, hv, hb, below_next hG hb⟩
                        · intro a W hG hR hO hp
                          have h149 := hp.1
                          have h151 := hp.2.1
                          have h153 := hp.2.2.1
                          obtain ⟨Ag, cg, h149, hrg⟩ := h149
                          obtain ⟨Ad, cd, h151, hrd⟩ := h151
                          obtain ⟨Lt, lt, Rt, rt, h153, hrl, hrr⟩ := h153
                          refine wp_enters (f := 32) (args := #[gndV Ag cg g', .slice Ad days.length cd, truthV sn so Lt lv.length lt Rt rn.length rt]) ?_ ((run_yes g' Ag cg days Ad cd sn so lv Lt lt rn Rt rt W (by omega) (by omega) (by omega) (by omega) hrg hrd hrl hrr (runN_ok HFG.out.1 HFG.out.2)).mono ?_)
                          · simp [slotOf] at h149 h151 h153
                            simp [go_sem, h149, h151, h153]
                          · rintro e w' ⟨⟨vx, rfl, hv⟩, hb⟩
                            exact ⟨_, rfl, _, rfl, hv, hb, below_next hG hb⟩
                        · intro a W hG hR hO hp
                          have h154 := hp.1
                          obtain ⟨v1, v2, h154, hv1, hv2⟩ := h154
                          refine wp_yields (v := .tuple #[v1, v2, vi (stR g' days sn so lv rn days.length).snow, vi 0]) ?_ ⟨_, rfl, ⟨v1, v2, rfl, hv1, hv2⟩, Below.refl _ _, hG⟩
                          simp [slotOf] at h154
                          simp [execOp, go_sem, h154]
                        · intro a W hG hR hO hp
                          have h147 := hp.1
                          obtain ⟨v1, v2, h147, hv1, hv2⟩ := h147
                          refine wp_yields (v := v1) ?_ ⟨_, rfl, hv1, Below.refl _ _, hG⟩
                          simp [slotOf] at h147
                          simp [execOp, go_sem, h147]
                        · intro a W hG hR hO hp
                          have h147 := hp.1
                          obtain ⟨v1, v2, h147, hv1, hv2⟩ := h147
                          refine wp_yields (v := v2) ?_ ⟨_, rfl, hv2, Below.refl _ _, hG⟩
                          simp [slotOf] at h147
                          simp [execOp, go_sem, h147]
                        · intro a W hG hR hO hp
                          have h147 := hp.1
                          obtain ⟨v1, v2, h147, hv1, hv2⟩ := h147
                          refine wp_yields (v := vi (stR g' days sn so lv rn days.length).snow) ?_ ⟨_, rfl, rfl, Below.refl _ _, hG⟩
                          simp [slotOf] at h147
                          simp [execOp, go_sem, h147]
                        · intro a W hG hR hO hp
                          have h147 := hp.1
                          obtain ⟨v1, v2, h147, hv1, hv2⟩ := h147
                          refine wp_yields (v := vi 0) ?_ ⟨_, rfl, rfl, Below.refl _ _, hG⟩
                          simp [slotOf] at h147
                          simp [execOp, go_sem, h147]
                        · intro a W hG hR hO hp
                          have h155 := hp.1
                          obtain ⟨Qx, cqx, Ax, cx, bx, h155, hq1, hq2⟩ := h155
                          refine wp_yields (v := .slice Qx days.length cqx) ?_ ⟨_, rfl, ⟨Qx, cqx, Ax, cx, bx, rfl, hq1, hq2⟩, Below.refl _ _, hG⟩
                          simp [slotOf] at h155
                          simp [execOp, go_sem, h155]
                        · intro a W hG hR hO hp
                          have h156 := hp.1
                          obtain ⟨Qx, cqx, bx, h156, hq1⟩ := h156
                          refine wp_yields (v := .slice Qx days.length cqx) ?_ ⟨_, rfl, ⟨Qx, cqx, bx, rfl, hq1⟩, Below.refl _ _, hG⟩
                          simp [slotOf] at h156
                          simp [execOp, go_sem, h156]
                        · intro a W hG hR hO hp
                          have h157 : slotOf a 157 = vi (stR g' days sn so lv rn days.length).snow := hp.1
                          refine wp_yields (v := vi (stR g' days sn so lv rn days.length).snow) ?_ ⟨_, rfl, rfl, Below.refl _ _, hG⟩
                          simp [slotOf] at h157
                          simp [execOp, go_sem, h157]
                      · intro W hG hR
                        rintro _ rfl _ ⟨_, _, rfl, -⟩ _ rfl _ ⟨_, _, rfl, -⟩ _ rfl _ ⟨_, _, _, _, rfl, -, -⟩ _ ⟨_, _, rfl, -, -⟩ _ ⟨_, _, rfl, -, -⟩ _ ⟨_, _, _, _, _, rfl, -, -⟩ _ ⟨_, _, _, rfl, -⟩ _ rfl _ rfl _ ⟨Q3, cq3, Af3, cf3, bs3, rfl, hT3, hR3⟩ _ ⟨_, _, _, rfl, -⟩ _ rfl
                        change wpList _ _ _ _ _ _
                        simp only [Act.put, List.setIfInBounds_toArray, List.set_cons_zero, List.set_cons_succ, List.drop_succ_cons, List.drop_zero]
                        have HLz := Lib.hid (HL.out.next hG)
                        have HXA := Lib.hid (vT1_st _ _ _ HXA'.out hG)
                        have HXBz := Lib.hid (vT1_st _ _ _ HXB.out hG)
                        have HXC : Hid (vT1 g.cells.length days.length (fun j i => (stR g' days sn so lv rn (j + 1)).f i) (.slice Q3 days.length cq3) W) := Lib.hid (by rw [← HGL.out]; exact ⟨Q3, cq3, Af3, cf3, bs3, rfl, hT3, hR3⟩)
                        clear hG hR hT3 hR3 HL HT2 HP2 HXA' HXB g0 g1 g2 g3 g4 g5 t0 t1 t2 t3
                        obtain ⟨wv, hwv⟩ : ∃ wv, wv = W := ⟨_, rfl⟩
                        rw [← hwv] at HLz HXA HXBz HXC ⊢
                        clear hwv W
                        have hsm := (HMORE.out days.length (Nat.le_refl _)).2
                        obtain ⟨sa, hsa⟩ : ∃ sa, sa = (stR g days sn so lv rn days.length).snow := ⟨_, rfl⟩
                        obtain ⟨sb, hsb⟩ : ∃ sb, sb = (stR g days hs ho hl hr days.length).snow := ⟨_, rfl⟩
                        rw [← hsa, ← hsb] at hsm ⊢
                        have hsn : ¬ (sb < sa) := by omega
                        clear hsm hsa hsb
                        go_wp2_with fail
                        refine (rows_any wv (by omega) HXA.out HXBz.out).mono ?_
                        rintro e w5 ⟨rfl, hb5⟩
                        have HL5 := Lib.hid (HLz.out.next hb5)
                        have HXA5 := Lib.hid (vT1_st _ _ _ HXA.out hb5)
                        have HXB5 := Lib.hid (vT1_st _ _ _ HXBz.out hb5)
                        have HXC5 := Lib.hid (vT1_st _ _ _ HXC.out hb5)
                        clear hb5 HLz HXA HXBz HXC
                        go_wp2_with fail
                        refine (rows_any w5 (by omega) HXA5.out HXC5.out).mono ?_
                        rintro e w6 ⟨rfl, hb6⟩
                        have HL6 := Lib.hid (HL5.out.next hb6)
                        have HXA6 := Lib.hid (vT1_st _ _ _ HXA5.out hb6)
                        have HXB6 := Lib.hid (vT1_st _ _ _ HXB5.out hb6)
                        have HXC6 := Lib.hid (vT1_st _ _ _ HXC5.out hb6)
                        clear hb6 HL5 HXA5 HXB5 HXC5
                        go_wp2_with fail
                        go_loopw [32] (fun s32 wr => ∃ k : Nat, k ≤ days.length ∧ s32 = .int .i64 k ∧ newer w6 wr) (fun s32 _ => days.length - (intOf s32).toNat)
                        case atStart => exact ⟨0, Nat.zero_le _, rfl, Below.refl _ _⟩
                        case round =>
                          obtain ⟨k, hk, rfl, hnw⟩ := hrel
                          have HNW := Lib.hid hnw
                          by_cases hlt : k < days.length
                          · have hkm : (k : Int) < days.length := by omega
                            obtain ⟨q1, Ay1, cy1, e1, y1, hry1⟩ := vT1_at (vT1_st _ _ _ HXA6.out hnw) hlt
                            obtain ⟨q2, Ay2, cy2, e2, y2, hry2⟩ := vT1_at (vT1_st _ _ _ HXB6.out hnw) hlt
                            obtain ⟨q3, Ay3, cy3, e3, y3, hry3⟩ := vT1_at (vT1_st _ _ _ HXC6.out hnw) hlt
                            have HY := Lib.hid (And.intro y1 (And.intro y2 y3))
                            have HRR := Lib.hid (And.intro hry1 (And.intro hry2 hry3))
                            subst e1
                            subst e2
                            subst e3
                            clear hnw y1 y2 y3 hry1 hry2 hry3
                            go_wp2_with fail
                            obtain ⟨wo, rfl⟩ : ∃ wo : World, wo = wr := ⟨_, rfl⟩
                            go_loopw [33] (fun s33 wr => ∃ i : Nat, i ≤ g.cells.length ∧ s33 = .int .i64 i ∧ newer wo wr) (fun s33 _ => g.cells.length - (intOf s33).toNat)
                            case atStart => exact ⟨0, Nat.zero_le _, rfl, Below.refl _ _⟩
                            case round =>
                              obtain ⟨i, hi, rfl, hn6⟩ := hrel
                              have HN7 := Lib.hid hn6
                              have y1 := keep_cell HY.out.1 hn6
                              by_cases hli : i < g.cells.length
                              · have hki : (i : Int) < g.cells.length := by omega
                                obtain ⟨p1, o1, e1, _, z1⟩ := cells_of_row ((HRR.out.1.below hn6).more hn6.size) hli
                                obtain ⟨p2, o2, e2, _, z2⟩ := cells_of_row ((HRR.out.2.1.below hn6).more hn6.size) hli
                                obtain ⟨p3, o3, e3, _, z3⟩ := cells_of_row ((HRR.out.2.2.below hn6).more hn6.size) hli
                                have y2 := keep_cell HY.out.2.1 hn6
                                have y3 := keep_cell HY.out.2.2 hn6
                                have hb1 := (HMORE.out (k + 1) (by omega)).1 i hli
                                have hb2 := HLESS.out (k + 1) (by omega) i hli
                                obtain ⟨xa, hxa⟩ : ∃ xa, xa = (stR g days sn so lv rn (k + 1)).f i := ⟨_, rfl⟩
                                obtain ⟨xb, hxb⟩ : ∃ xb, xb = (stR g days hs ho hl hr (k + 1)).f i := ⟨_, rfl⟩
                                obtain ⟨xc, hxc⟩ : ∃ xc, xc = (stR g' days sn so lv rn (k + 1)).f i := ⟨_, rfl⟩
                                rw [← hxa] at z1 hb1 hb2
                                rw [← hxb] at z2 hb1
                                rw [← hxc] at z3 hb2
                                subst e1
                                subst e2
                                subst e3
                                have hf1 : ¬ (xb < xa) := by omega
                                have hf2 : ¬ (xa < xc) := by omega
                                clear hxa hxb hxc hb1 hb2 hn6
                                go_wp2_with fail
                                go_quiet (fail)
                                go_wp2_with fail
                                exact ⟨⟨i + 1, by omega, by go_num, newer_trans HN7.out (newer_drewN _ _)⟩, by (simp only [intOf]; omega)⟩
                              · obtain rfl : i = g.cells.length := by omega
                                have HN8 := Lib.hid (newer_trans HNW.out hn6)
                                clear hn6
                                go_wp2_with fail
                                exact ⟨⟨k + 1, by omega, by go_num, HN8.out⟩, by (simp only [intOf]; omega)⟩
                          · obtain rfl : k = days.length := by omega
                            have HLr := Lib.hid (HL6.out.next hnw)
                            clear hnw
                            go_wp2_with fail
                            refine (wakes_any _).mono ?_
                            rintro e w8 ⟨rfl, hb8⟩
                            have HF := Lib.hid (HLr.out.next hb8).below
                            clear hb8
                            go_wp2_with fail
                            go_ret
                            exact ⟨rfl, HF.out⟩
  · have hrf : readyB g days = false := by simpa using hrd
    rw [hrf] at HRD
    clear hrd hrf
    go_enter Try.func10, Try.ntmps10
    go_wp2_with fail
    refine (HRD.out).mono ?_
    rintro e w1 ⟨rfl, hb1⟩
    have H1 := Lib.hid (HL0.out.next hb1)
    clear hb1 HRD
    go_wp2_with fail
    refine (wakes_any _).mono ?_
    rintro e w2 ⟨rfl, hb2⟩
    have HF := Lib.hid (H1.out.next hb2).below
    clear hb2 H1
    go_wp2_with fail
    go_ret
    exact ⟨rfl, HF.out⟩

set_option maxRecDepth 100000 in
set_option maxHeartbeats 1000000 in
theorem waterMore_lifted (os : Os) (started : os.Started) (H : Type) (enc : TypeId × Value → H) :
    ReturnsInHanded {} Try.checked os 10 .any (Rows.waterMoreSpec.pre6 enc Try.prog Try.f10 Rows.waterMoreRow.domain false) (Rows.waterMoreSpec.post enc Try.prog Try.f10 false true false false) := by
  refine returnsInHanded_of_change (C := Try.checked) Try.own started (by kernel_rfl) Try.func10
    (ChangeSpec.witness6 (enc := enc) (C := Try.checked) false ⟨#[], #[.agg #[.slice none 0 0, .int .i64 0, .int .i64 0, .int .i64 0, .int .i64 0, .int .i64 0], .slice none 0 0, .slice none 0 0, .slice none 0 0, .int .u8 0, .int .u16 0], []⟩ 8 (by kernel_rfl) (by kernel_rfl) (by kernel_rfl) (by kernel_rfl)) ?_
  intro W base args ds gs before hval0 hW hcnd _
  have hval : ∀ (j : Nat) t v, Try.f10.params[j]? = some t → args[j]? = some v → Value.okWide Try.prog W .any base t v := hval0
  have hW' := hW
  obtain ⟨p, q, hA0, hV, rfl, hfz, hnd⟩ := hW
  have hA : DataW.TrodAll enc Try.prog W 0 (fun _ => true) true Try.f10.params.toList args.toList ds p := hA0
  rw [Try.params10] at hA hval
  obtain ⟨v0, vs0, d0, ds0, p0, q0, hargs, rfl, rfl, h0, r0⟩ := trodAll_cons hA
  obtain ⟨v1, vs1, d1, ds1, p1, q1, rfl, rfl, rfl, h1, r1⟩ := trodAll_cons r0
  obtain ⟨v2, vs2, d2, ds2, p2, q2, rfl, rfl, rfl, h2, r2⟩ := trodAll_cons r1
  obtain ⟨v3, vs3, d3, ds3, p3, q3, rfl, rfl, rfl, h3, r3⟩ := trodAll_cons r2
  obtain ⟨v4, vs4, d4, ds4, p4, q4, rfl, rfl, rfl, h4, r4⟩ := trodAll_cons r3
  obtain ⟨v5, vs5, d5, ds5, p5, q5, rfl, rfl, rfl, h5, r5⟩ := trodAll_cons r4
  obtain ⟨rfl, rfl, rfl⟩ := trodAll_nil r5
  obtain rfl : args = #[v0, v1, v2, v3, v4, v5] := by cases args; simp_all
  obtain ⟨rfl, rfl⟩ := trodVars_none hV
  obtain ⟨c0, rfl, hs0⟩ := okWide_struct Try.underlying26 (hval 0 26 v0 rfl rfl)
  have k0 := h0
  have lt0 : ∀ x ∈ p0, x.block < W.heap.size := by obtain ⟨m, hm⟩ := k0; exact DataW.trod_lt m _ _ _ hm
  obtain ⟨g0, A0, cp0, e0, hl0, hrow0⟩ : ∃ (g : Gnd) (A : Option Addr) (cp : Nat), c0.toList = [.slice A g.cells.length cp, vi g.slo, vi g.shi, vi g.klo, vi g.khi, vi g.melt] ∧ g.cells.length ≤ maxLen ∧ Row cellL 7 W W.heap.size A g.cells := by
    obtain ⟨fuel, hf⟩ := h0
    exact ground_open hf
  obtain rfl : c0 = gndC A0 cp0 g0 := by cases c0; simp_all
  obtain ⟨a1, len1, cap1, rfl⟩ := okWide_slice Try.underlying27 (hval 1 27 v1 rfl rfl)
  have k1 := h1
  have lt1 : ∀ x ∈ p1, x.block < W.heap.size := by obtain ⟨m, hm⟩ := k1; exact DataW.trod_lt m _ _ _ hm
  obtain ⟨D1, l1, dp1, e1, hl1, hrow1⟩ : ∃ (D : Option Addr) (l : List Day) (dp : Nat), (Value.slice a1 len1 cap1).cells.toList = [.slice D l.length dp] ∧ l.length ≤ maxLen ∧ Row dayL 3 W W.heap.size D l := by
    obtain ⟨fuel, hf⟩ := h1
    exact days_open hf
  simp [Value.cells] at e1
  obtain ⟨rfl, rfl, rfl⟩ := e1
  obtain ⟨a2, len2, cap2, rfl⟩ := okWide_slice Try.underlying68 (hval 2 68 v2 rfl rfl)
  have k2 := h2
  have lt2 : ∀ x ∈ p2, x.block < W.heap.size := by obtain ⟨m, hm⟩ := k2; exact DataW.trod_lt m _ _ _ hm
  obtain ⟨D2, l2, dp2, e2, hl2, hrow2⟩ : ∃ (D : Option Addr) (l : List Word) (dp : Nat), (Value.slice a2 len2 cap2).cells.toList = [.slice D l.length dp] ∧ l.length ≤ maxLen ∧ Row wordL 1 W W.heap.size D l := by
    obtain ⟨fuel, hf⟩ := h2
    exact words_open hf
  simp [Value.cells] at e2
  obtain ⟨rfl, rfl, rfl⟩ := e2
  obtain ⟨a3, len3, cap3, rfl⟩ := okWide_slice Try.underlying68 (hval 3 68 v3 rfl rfl)
  have k3 := h3
  have lt3 : ∀ x ∈ p3, x.block < W.heap.size := by obtain ⟨m, hm⟩ := k3; exact DataW.trod_lt m _ _ _ hm
  obtain ⟨D3, l3, dp3, e3, hl3, hrow3⟩ : ∃ (D : Option Addr) (l : List Word) (dp : Nat), (Value.slice a3 len3 cap3).cells.toList = [.slice D l.length dp] ∧ l.length ≤ maxLen ∧ Row wordL 1 W W.heap.size D l := by
    obtain ⟨fuel, hf⟩ := h3
    exact words_open hf
  simp [Value.cells] at e3
  obtain ⟨rfl, rfl, rfl⟩ := e3
  obtain ⟨a4, rfl, rfl, rfl, w4⟩ := open_int Try.underlying5 (hval 4 5 v4 rfl rfl) h4
  obtain ⟨a5, rfl, rfl, rfl, w5⟩ := open_int Try.underlying75 (hval 5 75 v5 rfl rfl) h5
  have hb4 := bounds_u8 w4
  have hb5 := bounds_u16 w5
  clear hA0 hval0
  refine (waterMore_walk g0 A0 cp0 l1 a1 cap1 l2 a2 cap2 l3 a3 cap3 a4 a5 W hl2 hl3 hb4.1 hb4.2 hb5.1 hb5.2 hrow0 hrow1 hrow2 hrow3).mono fun e W' ⟨he, bel⟩ => ?_
  subst he
  exact ⟨_, rfl, _, _, _, [], _, [], hW', trodAll_mk1 (shut_bool Try.underlying4 _), (trodAll_cons_mk (Below.trod Try.laidOut (by kernel_rfl) (of_decide_eq_true (by kernel_rfl)) k0 bel lt0) (trodAll_cons_mk (Below.trod Try.laidOut (by kernel_rfl) (of_decide_eq_true (by kernel_rfl)) k1 bel lt1) (trodAll_cons_mk (Below.trod Try.laidOut (by kernel_rfl) (of_decide_eq_true (by kernel_rfl)) k2 bel lt2) (trodAll_cons_mk (Below.trod Try.laidOut (by kernel_rfl) (of_decide_eq_true (by kernel_rfl)) k3 bel lt3) (trodAll_cons_mk (shut_int Try.underlying5 w4) (trodAll_cons_mk (shut_int Try.underlying75 w5) trodAll_mk0)))))), rfl, bel.frame _, fun h => by cases h⟩

theorem waterMore_holds : Rows.WaterMoreSaid :=
  OpenClaim.holds_of_wide 10 Try.f10 rfl rfl rfl rfl rfl rfl rfl ⟨rfl, rfl, rfl, rfl, rfl⟩ rfl rfl rfl rfl rfl (by kernel_rfl) Try.func10 (by kernel_rfl)
    (of_decide_eq_true (by kernel_rfl)) (by unfold Func.isWrapper; first | (rw [if_pos (by decide +kernel)]; kernel_rfl) | (rw [if_neg (by decide +kernel)]; exact ⟨rfl, rfl⟩))
    (fun os started H enc _ => waterMore_lifted os started H enc)
#print axioms waterMore_holds
end Go.Proofs.Yteonkhohloabfaa
