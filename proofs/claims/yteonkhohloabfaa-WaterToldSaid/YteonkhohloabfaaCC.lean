/- The law WaterTold, walked: it returns true, whatever it is given. -/
import Derived.Test.YteonkhohloabfaaZC
import Derived.Deep.CutBlock
namespace Go.Proofs.Yteonkhohloabfaa
open Go.ChangeShapes Go.WideShapes Go.ChangeAt Go.RowKit Go.Deep

theorem Try.info92k : (Try.prog.info? 92).map (fun i => (i.zero, i.size, i.bytes)) = some (some (.agg #[.int .i64 0, .int .i64 0, .int .i64 0, .int .i64 0]), 4, 32) := by kernel_rfl
set_option maxRecDepth 100000 in
set_option maxHeartbeats 8000000 in
theorem waterTold_walk (g : Gnd) (A : Option Addr) (cp : Nat) (days : List Day) (D : Option Addr) (dp : Nat) (ws : List Word) (V : Option Addr) (vp : Nat) (xs : List Word) (X : Option Addr) (xp : Nat) (soak : Int) (w : World) (hlws : ws.length ≤ maxLen) (_ : xs.length ≤ maxLen)
    (hs0 : 0 ≤ soak) (hs1 : soak ≤ 65535)
    (hc : Row cellL 7 w w.heap.size A g.cells) (hd : Row dayL 3 w w.heap.size D days) (hv : Row wordL 1 w w.heap.size V ws) (hx : Row wordL 1 w w.heap.size X xs) :
    Calls Try.prog 14 #[gndV A cp g, .slice D days.length dp, .slice V ws.length vp, .slice X xs.length xp, .int .u16 soak] w fun e w' => e = .returned (.bool true) ∧ Below w.heap.size w w' := by
  have HVws := Lib.hid hv
  have HVxs := Lib.hid hx
  have HL0 := Lib.hid (Lh.made (cp := cp) hc hd)
  clear hc hd hv hx
  have HRD := Lib.hid (ready_any g cp A days dp D (w.alloc (.cells (gndC A cp g) 26)) HL0.out.hc HL0.out.hd)
  by_cases hrd : readyB g days = true
  · obtain ⟨hs1', hs2', hfz⟩ := ready_zeroH hrd
    have hn1 := (fault_cells hfz).1
    have hn8 := (fault_cells hfz).2
    have hm30 := (fault_zero hfz).2.1
    have HFZ := Lib.hid hfz
    rw [hrd] at HRD
    clear hrd hfz hs1' hs2'
    obtain ⟨i92, hi0, hz0, hz1, hz2⟩ := info_parts Try.info92k
    have HI := Lib.hid (And.intro hi0 (And.intro hz0 (And.intro hz1 hz2)))
    clear hi0 hz0 hz1 hz2
    go_enter Try.func14, Try.ntmps14
    go_wp2_with fail
    refine (HRD.out).mono ?_
    rintro e w1 ⟨rfl, hb1⟩
    have H1 := Lib.hid (HL0.out.next hb1)
    clear hb1 HRD HL0
    by_cases hdz : days.length = 0
    · have hdb : ((days.length : Int) == 0) = true := by rw [beq_iff_eq]; omega
      clear hdz
      go_wp2_with fail
      refine (wakes_any _).mono ?_
      rintro e wz ⟨rfl, hbz⟩
      have HF := Lib.hid (below_next H1.out.below hbz)
      clear hbz
      go_wp2_with fail
      go_ret
      exact ⟨rfl, HF.out⟩
    · have hdm : 1 ≤ days.length := by omega
      have hdb : ((days.length : Int) == 0) = false := by rw [beq_eq_false_iff_ne]; omega
      clear hdz
      by_cases h30 : 30 < xs.length
      · have h30i : (30 : Int) < xs.length := by omega
        go_wp2_with fail
        refine (wakes_any _).mono ?_
        rintro e wz ⟨rfl, hbz⟩
        have HF := Lib.hid (below_next H1.out.below hbz)
        clear hbz
        go_wp2_with fail
        go_ret
        exact ⟨rfl, HF.out⟩
      · have h30i : ¬ ((30 : Int) < xs.length) := by omega
        have g0 := (H1.out.gb).at 0 (v := .slice A g.cells.length cp) rfl
        have g1 := (H1.out.gb).at 1 (v := vi g.slo) rfl
        have g2 := (H1.out.gb).at 2 (v := vi g.shi) rfl
        have g3 := (H1.out.gb).at 3 (v := vi g.klo) rfl
        have g4 := (H1.out.gb).at 4 (v := vi g.khi) rfl
        have g5 := (H1.out.gb).at 5 (v := vi g.melt) rfl
        go_wp2_with fail
        refine (picked_any g A cp days D dp ws V vp w1 HFZ.out hlws H1.out.hc H1.out.hd ((HVws.out.below H1.out.below).more H1.out.below.size)).mono ?_
        rintro e w2 ⟨⟨sn, so, lv, rn, v, rfl, ⟨L, lp, R, rp, rfl, hL, hR⟩, hfit⟩, hb2⟩
        have H2 := Lib.hid (H1.out.next hb2)
        have HFT := Lib.hid hfit
        have HRW := Lib.hid (And.intro hL hR)
        have HLL := Lib.hid (fits_len hfit)
        have hl8 : lv.length ≤ 8 := by have := HLL.out.1; omega
        have hr30 : rn.length ≤ 30 := by have := HLL.out.2; omega
        have HSO : Hid (g.klo ≤ so ∧ so ≤ g.khi) := Lib.hid (by
          simp only [fitsB, Bool.and_eq_true, inB, decide_eq_true_eq] at hfit
          exact hfit.1.1.2)
        clear hL hR hfit hb2 H1 g0 g1 g2 g3 g4 g5
        go_upto_region 4 with fail
        refine genQ (fun X => Lh w g A cp days D X ∧ TbH w2.heap.size sn so lv L lp rn R rp X) ⟨H2.out.alloc _, Whole.made _ _ _, row_alloc HRW.out.1 _, row_alloc HRW.out.2 _⟩ ?_
        obtain ⟨tb, htb⟩ : ∃ tb, tb = w2.heap.size := ⟨_, rfl⟩
        rw [← htb]
        clear htb H2 HRW
        rintro wv ⟨hl, ht⟩
        have HL := Lib.hid hl
        have HT := Lib.hid ht
        clear hl ht
        obtain ⟨kg, hkg⟩ : ∃ kg, kg = knG g sn lv := ⟨_, rfl⟩
        obtain ⟨kd, hkd⟩ : ∃ kd, kd = knD days rn := ⟨_, rfl⟩
        have hkl : kg.cells.length ≤ 8 := by rw [hkg]; show (knTo _ _ _).length ≤ 8; rw [knTo_len]; exact hn8
        have hkm : kd.length ≤ 30 := by rw [hkd, knD_len]; exact hm30
        have HKE := Lib.hid (And.intro hkg hkd)
        have HK46 := Lib.hid (known46_any g A cp days D dp sn so lv L lp rn R rp wv (by omega) hn1 (by omega) HLL.out.1 HLL.out.2 HL.out.hc HL.out.hd HT.out.hl HT.out.hr)
        rw [← hkg, ← hkd] at HK46
        clear hkg hkd
        have g0 := (HL.out.gb).at 0 (v := .slice A g.cells.length cp) rfl
        have g1 := (HL.out.gb).at 1 (v := vi g.slo) rfl
        have g2 := (HL.out.gb).at 2 (v := vi g.shi) rfl
        have g3 := (HL.out.gb).at 3 (v := vi g.klo) rfl
        have g4 := (HL.out.gb).at 4 (v := vi g.khi) rfl
        have g5 := (HL.out.gb).at 5 (v := vi g.melt) rfl
        have t0 := (HT.out.tb).at 0 (v := vi sn) rfl
        have t1 := (HT.out.tb).at 1 (v := vi so) rfl
        have t2 := (HT.out.tb).at 2 (v := .slice L lv.length lp) rfl
        have t3 := (HT.out.tb).at 3 (v := .slice R rn.length rp) rfl
        go_wp2_with fail
        refine (HK46.out).mono ?_
        rintro e w3 ⟨⟨v1, v2, rfl, ⟨K, kc, rfl, hgk⟩, ⟨E, ec, rfl, hdk⟩⟩, hb3⟩
        have H3 := Lib.hid (And.intro (HL.out.next hb3) (And.intro (HT.out.next hb3) (And.intro hgk hdk)))
        clear hgk hdk hb3 HL HT HK46 g0 g1 g2 g3 g4 g5 t0 t1 t2 t3
        go_upto_region 5 with fail
        refine genQ (fun X => TlW w g A cp days D tb sn so lv L lp rn R rp w3.heap.size kg K kc kd E X) ⟨H3.out.1.alloc _, H3.out.2.1.next (newer_allocH _ _), ⟨Whole.made _ _ _, row_alloc H3.out.2.2.1 _⟩, row_alloc H3.out.2.2.2 _⟩ ?_
        obtain ⟨kb, hkb⟩ : ∃ kb, kb = w3.heap.size := ⟨_, rfl⟩
        rw [← hkb]
        clear hkb H3
        intro wv hx
        have HX := Lib.hid hx
        clear hx
        have k0 := (HX.out.kk.gb).at 0 (v := .slice K kg.cells.length kc) rfl
        have k1 := (HX.out.kk.gb).at 1 (v := vi kg.slo) rfl
        have k2 := (HX.out.kk.gb).at 2 (v := vi kg.shi) rfl
        have k3 := (HX.out.kk.gb).at 3 (v := vi kg.klo) rfl
        have k4 := (HX.out.kk.gb).at 4 (v := vi kg.khi) rfl
        have k5 := (HX.out.kk.gb).at 5 (v := vi kg.melt) rfl
        have t0 := (HX.out.tt.tb).at 0 (v := vi sn) rfl
        have t1 := (HX.out.tt.tb).at 1 (v := vi so) rfl
        have t2 := (HX.out.tt.tb).at 2 (v := .slice L lv.length lp) rfl
        have t3 := (HX.out.tt.tb).at 3 (v := .slice R rn.length rp) rfl
        refine wp_words (by kernel_rfl) (region_told 15 (by kernel_rfl) (by kernel_rfl) (fun W => Below wv.heap.size wv W) newer (pickD [vIs (gndV K kc kg), vGn kg, vIs (.slice E kd.length ec), vDy kd, vIs (truthV sn so L lv.length lp R rn.length rp), vTr sn so lv rn, vKn g days sn so lv rn, vKn g days sn so lv rn, vT1 g.cells.length days.length (tolF g days sn so lv rn), vT2a days.length, vSome, vIs (vi 0), vT1 g.cells.length days.length (tolF g days sn so lv rn), vT2a days.length, vSome]) (fun h k => newer_trans h k) (pickD_stable _ ⟨vIs_st, vGn_st, vIs_st, vDy_st, vIs_st, vTr_st, vKn_st, vKn_st, vT1_st, vT2a_st, vSome_st, vIs_st, vT1_st, vT2a_st, vSome_st, trivial⟩) (Below.refl _ wv).drew (Below.refl _ _) ?_ ?_)
        · refine ⟨?_, ?_, ?_, ?_, ?_, ?_, ?_, ?_, ?_, ?_, ?_, ?_, ?_, ?_, ?_, trivial⟩
          · intro a W hG hR hO hp
            have h12 := hO.slot 12 (by kernel_rfl)
            have c0 := keep_cell k0 hG
            have c1 := keep_cell k1 hG
            have c2 := keep_cell k2 hG
            have c3 := keep_cell k3 hG
            have c4 := keep_cell k4 hG
            have c5 := keep_cell k5 hG
            refine wp_yields (v := gndV K kc kg) ?_ ⟨_, rfl, rfl, Below.refl _ _, hG⟩
            simp [slotOf] at h12
            simp [execOp, go_sem, h12, c0, c1, c2, c3, c4, c5]
          · intro a W hG hR hO hp
            have h62 : slotOf a 62 = gndV K kc kg := hp.1
            refine wp_enters (f := 19) (args := #[gndV K kc kg]) ?_ ((lawGround kg K kc W (by omega) (HX.out.kk.next hG).hc).mono ?_)
            · simp [slotOf] at h62
              simp [go_sem, h62]
            · rintro e w' ⟨Ax, cx, rfl, h2, hb⟩
              exact ⟨_, rfl, _, rfl, ⟨Ax, cx, rfl, h2⟩, hb, below_next hG hb⟩
          · intro a W hG hR hO hp
            have h13 := hO.slot 13 (by kernel_rfl)
            refine wp_yields (v := .slice E kd.length ec) ?_ ⟨_, rfl, rfl, Below.refl _ _, hG⟩
            simp [slotOf] at h13
            simp [execOp, go_sem, h13]
          · intro a W hG hR hO hp
            have h64 : slotOf a 64 = .slice E kd.length ec := hp.1
            refine wp_enters (f := 20) (args := #[.slice E kd.length ec]) ?_ ((lawDays kd E ec W (by omega) (HX.out.next hG).kd).mono ?_)
            · simp [slotOf] at h64
              simp [go_sem, h64]
            · rintro e w' ⟨Ax, cx, rfl, h2, hb⟩
              exact ⟨_, rfl, _, rfl, ⟨Ax, cx, rfl, h2⟩, hb, below_next hG hb⟩
          · intro a W hG hR hO hp
            have h11 := hO.slot 11 (by kernel_rfl)
            have c0 := keep_cell t0 hG
            have c1 := keep_cell t1 hG
            have c2 := keep_cell t2 hG
            have c3 := keep_cell t3 hG
            refine wp_yields (v := truthV sn so L lv.length lp R rn.length rp) ?_ ⟨_, rfl, rfl, Below.refl _ _, hG⟩
            simp [slotOf] at h11
            simp [execOp, go_sem, h11, c0, c1, c2, c3]
          · intro a W hG hR hO hp
            have h66 : slotOf a 66 = truthV sn so L lv.length lp R rn.length rp := hp.1
            refine wp_enters (f := 33) (args := #[truthV sn so L lv.length lp R rn.length rp]) ?_ ((lawTruth sn so lv rn L lp R rp W (by omega) (by omega) (HX.out.tt.next hG).hl (HX.out.tt.next hG).hr).mono ?_)
            · simp [slotOf] at h66
              simp [go_sem, h66]
            · rintro e w' ⟨⟨vx, rfl, hv⟩, hb⟩
              exact ⟨_, rfl, _, rfl, hv, hb, below_next hG hb⟩
          · intro a W hG hR hO hp
            have h63 := hp.1
            have h65 := hp.2.1
            have h67 := hp.2.2.1
            obtain ⟨Ag, cg, h63, hrg⟩ := h63
            obtain ⟨Ad, cd, h65, hrd⟩ := h65
            obtain ⟨Lt, lt, Rt, rt, h67, hrl, hrr⟩ := h67
            refine wp_enters (f := 32) (args := #[gndV Ag cg kg, .slice Ad kd.length cd, truthV sn so Lt lv.length lt Rt rn.length rt]) ?_ ((kn_run HFZ.out HFT.out HKE.out.1 HKE.out.2 so HSO.out.1 HSO.out.2 Ag cg Ad cd Lt lt Rt rt W hrg hrd hrl hrr).mono ?_)
            · simp [slotOf] at h63 h65 h67
              simp [go_sem, h63, h65, h67]
            · rintro e w' ⟨⟨vx, rfl, hv⟩, hb⟩
              exact ⟨_, rfl, _, rfl, hv, hb, below_next hG hb⟩
          · intro a W hG hR hO hp
            have h68 := hp.1
            obtain ⟨v1, v2, s3, h68, hv1, hv2⟩ := h68
            refine wp_yields (v := .tuple #[v1, v2, vi s3, vi 0]) ?_ ⟨_, rfl, ⟨v1, v2, s3, rfl, hv1, hv2⟩, Below.refl _ _, hG⟩
            simp [slotOf] at h68
            simp [execOp, go_sem, h68]
          · intro a W hG hR hO hp
            have h61 := hp.1
            obtain ⟨v1, v2, s3, h61, hv1, hv2⟩ := h61
            refine wp_yields (v := v1) ?_ ⟨_, rfl, hv1, Below.refl _ _, hG⟩
            simp [slotOf] at h61
            simp [execOp, go_sem, h61]
          · intro a W hG hR hO hp
            have h61 := hp.1
            obtain ⟨v1, v2, s3, h61, hv1, hv2⟩ := h61
            refine wp_yields (v := v2) ?_ ⟨_, rfl, hv2, Below.refl _ _, hG⟩
            simp [slotOf] at h61
            simp [execOp, go_sem, h61]
          · intro a W hG hR hO hp
            have h61 := hp.1
            obtain ⟨v1, v2, s3, h61, hv1, hv2⟩ := h61
            refine wp_yields (v := vi s3) ?_ ⟨_, rfl, ⟨_, rfl⟩, Below.refl _ _, hG⟩
            simp [slotOf] at h61
            simp [execOp, go_sem, h61]
          · intro a W hG hR hO hp
            have h61 := hp.1
            obtain ⟨v1, v2, s3, h61, hv1, hv2⟩ := h61
            refine wp_yields (v := vi 0) ?_ ⟨_, rfl, rfl, Below.refl _ _, hG⟩
            simp [slotOf] at h61
            simp [execOp, go_sem, h61]
          · intro a W hG hR hO hp
            have h69 := hp.1
            obtain ⟨Qx, cqx, Ax, cx, bx, h69, hq1, hq2⟩ := h69
            refine wp_yields (v := .slice Qx days.length cqx) ?_ ⟨_, rfl, ⟨Qx, cqx, Ax, cx, bx, rfl, hq1, hq2⟩, Below.refl _ _, hG⟩
            simp [slotOf] at h69
            simp [execOp, go_sem, h69]
          · intro a W hG hR hO hp
            have h70 := hp.1
            obtain ⟨sl, Qx, cqx, bx, h70, hq1⟩ := h70
            refine wp_yields (v := .slice Qx days.length cqx) ?_ ⟨_, rfl, ⟨sl, Qx, cqx, bx, rfl, hq1⟩, Below.refl _ _, hG⟩
            simp [slotOf] at h70
            simp [execOp, go_sem, h70]
          · intro a W hG hR hO hp
            have h71 := hp.1
            obtain ⟨s3, h71⟩ := h71
            refine wp_yields (v := vi s3) ?_ ⟨_, rfl, ⟨_, rfl⟩, Below.refl _ _, hG⟩
            simp [slotOf] at h71
            simp [execOp, go_sem, h71]
        · intro W hG hR
          rintro _ rfl _ ⟨_, _, rfl, -⟩ _ rfl _ ⟨_, _, rfl, -⟩ _ rfl _ ⟨_, _, _, _, rfl, -, -⟩ _ ⟨_, _, _, rfl, -, -⟩ _ ⟨_, _, _, rfl, -, -⟩ _ ⟨_, _, _, _, _, rfl, -, -⟩ _ ⟨_, _, _, _, rfl, -⟩ _ ⟨_, rfl⟩ _ rfl _ ⟨Q1, cq1, Af, cf, bs1, rfl, hT1, hR1⟩ _ ⟨_, _, _, _, rfl, -⟩ _ ⟨_, rfl⟩
          change wpList _ _ _ _ _ _
          simp only [Act.put, List.setIfInBounds_toArray, List.set_cons_zero, List.set_cons_succ, List.drop_succ_cons, List.drop_zero]
          have HY := Lib.hid (HX.out.next hG)
          have HV1 := Lib.hid (show vT1 g.cells.length days.length (tolF g days sn so lv rn) (.slice Q1 days.length cq1) _ from ⟨Q1, cq1, Af, cf, bs1, rfl, hT1, hR1⟩)
          clear hG hR hT1 hR1 HX k0 k1 k2 k3 k4 k5 t0 t1 t2 t3
          obtain ⟨wv, hwv⟩ : ∃ wv, wv = W := ⟨_, rfl⟩
          rw [← hwv] at HY HV1 ⊢
          clear hwv W
          have HX := HY
          clear HY
          obtain ⟨rl, hrl⟩ : ∃ rl, rl = (xs.map Word.n).map (tolR g.cells.length days.length (tolF g days sn so lv rn)) := ⟨_, rfl⟩
          have HRL := Lib.hid (And.intro hrl (show rl.length = xs.length by rw [hrl]; simp))
          clear hrl
          go_wp2_with fail
          go_loopw [18, 19] (fun s18 s19 wr => ∃ k : Nat, k ≤ xs.length ∧ s19 = .int .i64 k ∧ newer wv wr ∧ wr.ownsRow wv.heap.size 92 4 s18 k ((rl.take k).flatMap rdgL)) (fun _ s19 _ => xs.length - (intOf s19).toNat)
          case atStart => exact ⟨0, Nat.zero_le _, rfl, Below.refl _ _, by simp, .inl ⟨rfl, rfl⟩⟩
          case round =>
            obtain ⟨k, hk, rfl, hnr, hown⟩ := hrel
            have HXr := Lib.hid (HX.out.next hnr)
            have HVr := Lib.hid (vT1_st _ _ _ HV1.out hnr)
            have HNR := Lib.hid hnr
            have HOW := Lib.hid hown
            clear hnr hown
            by_cases hlt : k < xs.length
            · as_aux_lemma =>
                have hkn : (k : Int) < xs.length := by omega
                obtain ⟨x, hx⟩ := get_of_lt hlt
                obtain ⟨xb, xo, e1, _, cx⟩ := row_word ((HVxs.out.below HXr.out.lw.below).more HXr.out.lw.below.size) hx
                subst e1
                have hx0 := x.lo
                have hx1 := x.hi
                obtain ⟨cn, dn, q8, q2, q10, ta, tb2, hcn, hq8, hdn', hq2, hta, hq10, htb, hcn1, hdn1, hq8b, hq2b, hq10b, htab, htbb, _, _, hrd⟩ := tol_word (n := g.cells.length) (m := days.length) hn1 hdm hx0 hx1
                have hdn := hdn'
                clear hdn'
                have HRK : Hid (rl[k]? = some (tolR g.cells.length days.length (tolF g days sn so lv rn) x.n)) := Lib.hid (by rw [HRL.out.1, List.getElem?_map, List.getElem?_map, hx]; rfl)
                rw [hrd] at HRK
                have hlb := stR_bd HFZ.out HFT.out (k := dn + 1) (i := cn) (by omega) hcn1
                obtain ⟨lx, hlx⟩ : ∃ lx, lx = tolF g days sn so lv rn dn cn := ⟨_, rfl⟩
                rw [show (stR g days sn so lv rn (dn + 1)).f cn = lx from hlx.symm] at hlb
                rw [← hlx] at HRK
                obtain ⟨q1, Ay, cy, e2, y1, hry⟩ := vT1_at HVr.out hdn1
                obtain ⟨yb, yo, e3, _, y2⟩ := cells_of_row hry hcn1
                subst e2
                subst e3
                rw [← hlx] at y2
                have HNZ := Lib.hid (And.intro hn1 hdm)
                clear hrd hlx hry
                have wx := IntWalk.i64_in x.n (by omega)
                have wq8 := IntWalk.i64_in q8 (by omega)
                have wq2 := IntWalk.i64_in q2 (by omega)
                have wq10 := IntWalk.i64_in q10 (by omega)
                have wta := IntWalk.i64_in ta (by omega)
                have wtb := IntWalk.i64_in tb2 (by omega)
                have wsub := IntWalk.i64_in (lx - ta) (by omega)
                have wadd := IntWalk.i64_in (lx + tb2) (by omega)
                have hnz : ¬ g.cells = [] := fun h => by rw [h] at hn1; simp at hn1
                have hmz : ¬ days = [] := fun h => by rw [h] at hdm; simp at hdm
                have hcn2 : (cn : Int) < g.cells.length := by omega
                have hdn2 : (dn : Int) < days.length := by omega
                have hl0 : ¬ (lx < 0) := by omega
                have hl1 : ¬ (100000 < lx) := by omega
                have g0 := (HXr.out.lw.gb).at 0 (v := .slice A g.cells.length cp) rfl
                have g1 := (HXr.out.lw.gb).at 1 (v := vi g.slo) rfl
                have g2 := (HXr.out.lw.gb).at 2 (v := vi g.shi) rfl
                have g3 := (HXr.out.lw.gb).at 3 (v := vi g.klo) rfl
                have g4 := (HXr.out.lw.gb).at 4 (v := vi g.khi) rfl
                have g5 := (HXr.out.lw.gb).at 5 (v := vi g.melt) rfl
                go_wp2_with fail
                refine wp_words (by kernel_rfl) (region_told 12 (by kernel_rfl) (by kernel_rfl) (fun W => Below wr.heap.size wr W) newer (pickD [vIs (vi x.n), vIs (.pointer (some ⟨w.heap.size, 0, none⟩)), vIs (.slice A g.cells.length cp), vIs (.int .i64 g.cells.length), vIs (vi (cn : Int)), vIs (vi x.n), vIs (vi q8), vIs (.slice D days.length dp), vIs (.int .i64 days.length), vIs (vi (dn : Int)), vIs (rdgV ⟨cn, dn, 0, 0⟩), vNew wr.heap.size 92 #[vi 0, vi 0, vi 0, vi 0]]) (fun h k => newer_trans h k) (pickD_stable _ ⟨vIs_st, vIs_st, vIs_st, vIs_st, vIs_st, vIs_st, vIs_st, vIs_st, vIs_st, vIs_st, vIs_st, vNew_st, trivial⟩) (Below.refl _ wr).drew (Below.refl _ _) ?_ ?_)
                · refine ⟨?_, ?_, ?_, ?_, ?_, ?_, ?_, ?_, ?_, ?_, ?_, ?_, trivial⟩
                  · intro a W hG hR hO hp
                    have h20 := hO.slot 20 (by kernel_rfl)
                    refine wp_yields (v := vi x.n) ?_ ⟨_, rfl, rfl, Below.refl _ _, hG⟩
                    simp [slotOf] at h20
                    simp [execOp, go_sem, h20]
                  · intro a W hG hR hO hp
                    have h5 := hO.slot 5 (by kernel_rfl)
                    refine wp_yields (v := .pointer (some ⟨w.heap.size, 0, none⟩)) ?_ ⟨_, rfl, rfl, Below.refl _ _, hG⟩
                    simp [slotOf] at h5
                    simp [execOp, go_sem, h5]
                  · intro a W hG hR hO hp
                    have h94 : slotOf a 94 = .pointer (some ⟨w.heap.size, 0, none⟩) := hp.1
                    have c0 := keep_cell g0 hG
                    refine wp_yields (v := .slice A g.cells.length cp) ?_ ⟨_, rfl, rfl, Below.refl _ _, hG⟩
                    simp [slotOf] at h94
                    simp [execOp, go_sem, h94, c0]
                  · intro a W hG hR hO hp
                    have h95 : slotOf a 95 = .slice A g.cells.length cp := hp.1
                    refine wp_yields (v := .int .i64 g.cells.length) ?_ ⟨_, rfl, rfl, Below.refl _ _, hG⟩
                    simp [slotOf] at h95
                    simp [go_sem, h95]
                  · intro a W hG hR hO hp
                    have h93 : slotOf a 93 = vi x.n := hp.1
                    have h96 : slotOf a 96 = .int .i64 g.cells.length := hp.2.1
                    refine wp_yields (v := vi (cn : Int)) ?_ ⟨_, rfl, rfl, Below.refl _ _, hG⟩
                    simp [slotOf] at h93 h96
                    simp [execOp, go_sem, h93, h96, hcn, hnz]
                  · intro a W hG hR hO hp
                    have h20 := hO.slot 20 (by kernel_rfl)
                    refine wp_yields (v := vi x.n) ?_ ⟨_, rfl, rfl, Below.refl _ _, hG⟩
                    simp [slotOf] at h20
                    simp [execOp, go_sem, h20]
                  · intro a W hG hR hO hp
                    have h98 : slotOf a 98 = vi x.n := hp.1
                    refine wp_yields (v := vi q8) ?_ ⟨_, rfl, rfl, Below.refl _ _, hG⟩
                    simp [slotOf] at h98
                    simp [execOp, go_sem, h98, hq8, wq8]
                  · intro a W hG hR hO hp
                    have h1 := hO.slot 1 (by kernel_rfl)
                    refine wp_yields (v := .slice D days.length dp) ?_ ⟨_, rfl, rfl, Below.refl _ _, hG⟩
                    simp [slotOf] at h1
                    simp [execOp, go_sem, h1]
                  · intro a W hG hR hO hp
                    have h100 : slotOf a 100 = .slice D days.length dp := hp.1
                    refine wp_yields (v := .int .i64 days.length) ?_ ⟨_, rfl, rfl, Below.refl _ _, hG⟩
                    simp [slotOf] at h100
                    simp [go_sem, h100]
                  · intro a W hG hR hO hp
                    have h99 : slotOf a 99 = vi q8 := hp.1
                    have h101 : slotOf a 101 = .int .i64 days.length := hp.2.1
                    refine wp_yields (v := vi (dn : Int)) ?_ ⟨_, rfl, rfl, Below.refl _ _, hG⟩
                    simp [slotOf] at h99 h101
                    simp [execOp, go_sem, h99, h101, hdn, hmz]
                  · intro a W hG hR hO hp
                    have h97 : slotOf a 97 = vi (cn : Int) := hp.1
                    have h102 : slotOf a 102 = vi (dn : Int) := hp.2.1
                    refine wp_yields (v := rdgV ⟨cn, dn, 0, 0⟩) ?_ ⟨_, rfl, rfl, Below.refl _ _, hG⟩
                    simp [slotOf] at h97 h102
                    simp [execOp, go_sem, h97, h102]
                  · intro a W hG hR hO hp
                    refine wp_makes (v := .pointer (some ⟨W.heap.size, 0, none⟩)) (W' := W.alloc (.cells #[vi 0, vi 0, vi 0, vi 0] 92)) ?_ ⟨_, rfl, ⟨_, rfl, hG.size, Whole.made _ _ _⟩, (Below.refl _ _).alloc (Nat.le_refl _) _, hG.alloc hG.size _⟩
                    skip
                    simp [execOp, go_sem]
                · intro W hG hR
                  rintro _ rfl _ rfl _ rfl _ rfl _ rfl _ rfl _ rfl _ rfl _ rfl _ rfl _ rfl _ ⟨rb, rfl, hrb, hwb⟩
                  change wpList _ _ _ _ _ _
                  simp only [Act.put, List.setIfInBounds_toArray, List.set_cons_zero, List.set_cons_succ, List.drop_succ_cons, List.drop_zero]
                  have HN2 := Lib.hid (And.intro hG hrb)
                  have HWB := Lib.hid hwb
                  have b0 := hwb.at 0 rfl
                  have b1 := hwb.at 1 rfl
                  have b2 := hwb.at 2 rfl
                  have b3 := hwb.at 3 rfl
                  have f0 := hwb.free 0
                  have f1 := hwb.free 1
                  have f2 := hwb.free 2
                  have f3 := hwb.free 3
                  clear hG hR hrb hwb g0 g1 g2 g3 g4 g5 cx
                  go_upto_region 14 with fail
                  refine genQ (fun X => newer wr X ∧ Whole X rb 92 #[vi cn, vi dn, vi 0, vi 0]) ⟨putH_below HN2.out.1 HN2.out.2 _ _ _ _, putH_whole HWB.out _ _ _ _⟩ ?_
                  have HRB := Lib.hid HN2.out.2
                  clear HN2 HWB b0 b1 b2 b3 f0 f1 f2 f3
                  rintro wy ⟨hn2, hw2⟩
                  have g0 := keep_cell (HXr.out.lw.gb.at 0 (v := .slice A g.cells.length cp) rfl) hn2
                  have y3 := keep_cell y1 hn2
                  have y4 := keep_cell y2 hn2
                  have r0 := hw2.at 0 (v := vi cn) rfl
                  have r1 := hw2.at 1 (v := vi dn) rfl
                  have HB := Lib.hid (And.intro hn2 hw2)
                  clear hn2 hw2
                  go_quiet (fail)
                  go_upto_region 16 with fail
                  go_quiet (fail)
                  go_upto_region 19 with fail
                  refine genQ (fun X => newer wr X ∧ Whole X rb 92 #[vi cn, vi dn, vi 0, vi 0]) ⟨newer_trans HB.out.1 (newer_drewN _ _), HB.out.2.below (newer_drewN _ _) HB.out.2.lt⟩ ?_
                  clear HB g0 y3 y4 r0 r1
                  rintro wy ⟨hn2, hw2⟩
                  have HB := Lib.hid (And.intro hn2 hw2)
                  have b2 := hw2.at 2 rfl
                  have b3 := hw2.at 3 rfl
                  have f2 := hw2.free 2
                  have f3 := hw2.free 3
                  clear hn2 hw2
                  go_cut [] (fun wx => newer wr wx ∧ ∃ lo hi, Whole wx rb 92 #[vi cn, vi dn, vi lo, vi hi] ∧ lo = mxI 0 (lx - ta) ∧ hi = mnI 100000 (lx + tb2))
                  case first =>
                    go_wp2_with fail
                    all_goals
                      go_meet
                      exact ⟨(HB.out.1.setCell (p := ⟨rb, 2, none⟩) HRB.out _).setCell (p := ⟨rb, 3, none⟩) HRB.out _, _, _, (HB.out.2.set 2 _).set 3 _, by unfold mxI; split <;> omega, by unfold mnI; split <;> omega⟩
                  case rest =>
                    obtain ⟨hn2, lo, hi, hw2, hlo, hhi⟩ := hcut
                    rw [← hlo, ← hhi] at HRK
                    clear HB b2 b3 f2 f3 wsub wadd
                    obtain ⟨wz, hwz⟩ : ∃ wz, wz = wc := ⟨_, rfl⟩
                    rw [← hwz] at hn2 hw2 ⊢
                    clear hwz
                    clear hlo hhi hcn hdn hq8 hq2 hta hq10 htb hcn1 hdn1 hq8b hq2b hq10b htab htbb hlb wx wq8 wq2 wq10 wta wtb hnz hmz hcn2 hdn2 hl0 hl1 y1 y2 hx0 hx1
                    have r0 := hw2.at 0 (v := vi cn) rfl
                    have r1 := hw2.at 1 (v := vi dn) rfl
                    have r2 := hw2.at 2 (v := vi lo) rfl
                    have r3 := hw2.at 3 (v := vi hi) rfl
                    have HO := Lib.hid (own_below HOW.out (newer_trans hn2 (newer_allocH wz (.cells #[vi cn, vi dn, vi lo, vi hi] 92))))
                    have HN := Lib.hid (newer_trans HNR.out (newer_trans hn2 (newer_allocH wz (.cells #[vi cn, vi dn, vi lo, vi hi] 92))))
                    have HNW := Lib.hid (World.news_of_block (Whole.made wz 92 #[vi cn, vi dn, vi lo, vi hi]))
                    have hbs := (newer_trans HNR.out hn2).size
                    obtain ⟨hi0, hz0, hz1, hz2⟩ := HI.out
                    clear hn2 hw2
                    go_wp2_with (at_builtin; go_loud ((refine wpList_append_lies _ rfl (.tmp 143) (.tmp 145) 81 rfl wv.heap.size 92 i92 (.agg #[.int .i64 0, .int .i64 0, .int .i64 0, .int .i64 0]) 4 32 Try.underlying81 hi0 hz0 hz1 hz2 rfl (by omega) _ k _ rfl HO.out ⟨wz.heap.size, 0, none⟩ 1 1 (rdgL ⟨cn, dn, lo, hi⟩) rfl rfl HNW.out (by simp [Value.oneCell']) (by omega) (by unfold maxLen; omega) (by omega) (by simp; omega) (wz.heap.size + 1) (by simp) ?_); intro gg cp2 w2 hown2 hgrow2 hat2 hlt2; rw [← take_flat rdgL rl k _ HRK.out] at hown2; have HO3 := Lib.hid hown2; have HN3 := Lib.hid (HN.out.grown hgrow2 HN.out.size (own_ge HO.out)); clear hown2 hgrow2 hat2 hlt2 hi0 hz0 hz1 hz2 hbs r0 r1 r2 r3))
                    exact ⟨⟨k + 1, by omega, by go_num, HN3.out, HO3.out⟩, by (simp only [intOf]; omega)⟩
            · obtain rfl : k = xs.length := by omega
              rw [List.take_of_length_le (Nat.le_of_eq HRL.out.2)] at HOW
              obtain ⟨R0, rp0, rfl⟩ := own_form HOW.out
              have HRD : Hid (Row rdgL 4 wr wr.heap.size R0 rl) := Lib.hid (row_of_own (by omega) (fun _ => rfl) HOW.out)
              have HRO := Lib.hid (own_room HOW.out)
              clear HOW HNR HX HV1
              have hkn : ¬ ((xs.length : Int) < xs.length) := by omega
              have k0 := (HXr.out.kk.gb).at 0 (v := .slice K kg.cells.length kc) rfl
              have k1 := (HXr.out.kk.gb).at 1 (v := vi kg.slo) rfl
              have k2 := (HXr.out.kk.gb).at 2 (v := vi kg.shi) rfl
              have k3 := (HXr.out.kk.gb).at 3 (v := vi kg.klo) rfl
              have k4 := (HXr.out.kk.gb).at 4 (v := vi kg.khi) rfl
              have k5 := (HXr.out.kk.gb).at 5 (v := vi kg.melt) rfl
              go_wp2_with fail
              refine (lawGround kg K kc wr (by omega) HXr.out.kk.hc).mono ?_
              rintro e w2 ⟨A2, c2, rfl, hr2, hb2⟩
              have H2 := Lib.hid (And.intro (HXr.out.next hb2) (And.intro (vT1_st _ _ _ HVr.out hb2) (And.intro ((HRD.out.below hb2).more hb2.size) hr2)))
              clear hr2 hb2 HXr HVr HRD k0 k1 k2 k3 k4 k5
              go_wp2_with fail
              refine (lawDays kd E ec w2 (by omega) H2.out.1.kd).mono ?_
              rintro e w3 ⟨A3, c3, rfl, hr3, hb3⟩
              have H3 := Lib.hid (And.intro (H2.out.1.next hb3) (And.intro (vT1_st _ _ _ H2.out.2.1 hb3) (And.intro ((H2.out.2.2.1.below hb3).more hb3.size) (And.intro ((H2.out.2.2.2.below hb3).more hb3.size) hr3))))
              clear hr3 hb3 H2
              have HLR := Lib.hid (lawReadings rl R0 rp0 w3 (by rw [HRL.out.2]; omega) H3.out.2.2.1)
              rw [HRL.out.2] at HLR
              go_wp2_with fail
              refine (HLR.out).mono ?_
              rintro e w4 ⟨⟨v4, rfl, A4, c4, rfl, hr4⟩, hb4⟩
              have HTS : Hid (lnErr kg kd rl = 0 ∧ rl.all (agB kg kd so) = true) := Lib.hid (by
                have hts := tol_says HFZ.out HFT.out hdm (xs.map Word.n) (by rw [List.length_map]; omega)
                rw [← HRL.out.1, ← HKE.out.1, ← HKE.out.2] at hts
                exact hts)
              have HKS : Hid (kg.klo ≤ so ∧ so ≤ kg.khi) := Lib.hid (by rw [HKE.out.1]; exact HSO.out)
              have H4 := Lib.hid (And.intro (H3.out.1.next hb4) (And.intro (vT1_st _ _ _ H3.out.2.1 hb4) ((H3.out.2.2.1.below hb4).more hb4.size)))
              have HLN := Lib.hid (learn_told kg A2 c2 kd A3 c3 rl A4 c4 w4 ((H3.out.2.2.2.1.below hb4).more hb4.size) ((H3.out.2.2.2.2.below hb4).more hb4.size) hr4 HTS.out.1 so HTS.out.2 HKS.out.1 HKS.out.2)
              clear hr4 hb4 H3 HLR
              go_wp2_with fail
              refine (HLN.out).mono ?_
              rintro e w5 ⟨⟨v5, rfl, lo, hi, rfl, hto⟩, hb5⟩
              have HTO := Lib.hid hto
              have hq := hto.holds HKS.out.1 HKS.out.2 HTS.out.2
              have hq1 : g.klo ≤ lo := by
                have := hto.h1
                rw [HKE.out.1] at this
                exact this
              have hq2 : hi ≤ g.khi := by
                have := hto.h3
                rw [HKE.out.1] at this
                exact this
              have hz1 : ¬ (so < lo) := by omega
              have hz2 : ¬ (hi < so) := by omega
              have hz3 : ¬ (lo < g.klo) := by omega
              have hz4 : ¬ (g.khi < hi) := by omega
              have H5 := Lib.hid (And.intro (H4.out.1.next hb5) (And.intro (vT1_st _ _ _ H4.out.2.1 hb5) ((H4.out.2.2.below hb5).more hb5.size)))
              clear hto hq hq1 hq2 hb5 H4 HLN
              go_upto_region 22 with fail
              refine genQ (fun X => TlW w g A cp days D tb sn so lv L lp rn R rp kb kg K kc kd E X ∧ TlR g.cells.length days.length (tolF g days sn so lv rn) Q1 cq1 w5.heap.size lo hi rl R0 X) ⟨H5.out.1.next (newer_allocH _ _), vT1_st _ _ _ H5.out.2.1 (newer_allocH _ _), Whole.made _ _ _, row_alloc H5.out.2.2 _⟩ ?_
              obtain ⟨xb, hxb⟩ : ∃ xb, xb = w5.heap.size := ⟨_, rfl⟩
              rw [← hxb]
              clear hxb H5
              rintro wv ⟨hx, hr⟩
              have HX := Lib.hid hx
              have HR := Lib.hid hr
              clear hx hr
              have x0 := HR.out.rb.at 0 (v := vi lo) rfl
              have x1 := HR.out.rb.at 1 (v := vi hi) rfl
              have g0 := (HX.out.lw.gb).at 0 (v := .slice A g.cells.length cp) rfl
              have g1 := (HX.out.lw.gb).at 1 (v := vi g.slo) rfl
              have g2 := (HX.out.lw.gb).at 2 (v := vi g.shi) rfl
              have g3 := (HX.out.lw.gb).at 3 (v := vi g.klo) rfl
              have g4 := (HX.out.lw.gb).at 4 (v := vi g.khi) rfl
              have g5 := (HX.out.lw.gb).at 5 (v := vi g.melt) rfl
              have t0 := (HX.out.tt.tb).at 0 (v := vi sn) rfl
              have t1 := (HX.out.tt.tb).at 1 (v := vi so) rfl
              have t2 := (HX.out.tt.tb).at 2 (v := .slice L lv.length lp) rfl
              have t3 := (HX.out.tt.tb).at 3 (v := .slice R rn.length rp) rfl
              go_upto_if 191 with fail
              clear hz1 hz2 hz3 hz4 g0 g1 g2 g3 g4 g5 t0 t1 t2 t3
              go_cut [] (fun wx => TlW w g A cp days D tb sn so lv L lp rn R rp kb kg K kc kd E wx ∧ TlR g.cells.length days.length (tolF g days sn so lv rn) Q1 cq1 xb lo hi rl R0 wx)
              case first =>
                as_aux_lemma =>
                  by_cases hx0 : xs.length = 0
                  · have hx1 : ¬ ((0 : Int) < xs.length) := by omega
                    clear hx0
                    go_wp2_with fail
                    go_meet
                    exact ⟨HX.out, HR.out⟩
                  · have hx1 : (0 : Int) < xs.length := by omega
                    obtain ⟨y1, rl2, hrl2⟩ : ∃ y1 rl2, rl = y1 :: rl2 := List.exists_cons_of_ne_nil (fun h => hx0 (by rw [← HRL.out.2, h]; rfl))
                    subst hrl2
                    obtain ⟨ib, io, hR0, _, _⟩ := HR.out.rd (by simp)
                    subst hR0
                    obtain ⟨ad, hAD⟩ : ∃ ad : Option Addr, (if rp0 = 1 then some (⟨ib, io, none⟩ : Addr) else some (⟨ib, io + 4, none⟩ : Addr)) = ad := ⟨_, rfl⟩
                    have hrl1 := HRL.out.2
                    rw [List.length_cons] at hrl1
                    have HT2 : Hid (Row rdgL 4 wv wv.heap.size ad rl2) := Lib.hid (by
                      rw [← hAD]
                      have hrm := HRO.out.1
                      split
                      · have e0 : rl2 = [] := List.length_eq_zero_iff.1 (by omega)
                        rw [e0]
                        exact Row.nil _
                      · exact row_tail HR.out.rd)
                    clear hrl1
                    have hx3 : (1 : Int) ≤ xs.length := by omega
                    have HL2 : Hid (rl2.length = xs.length - 1) := Lib.hid (by have := HRL.out.2; rw [List.length_cons] at this; omega)
                    have HS2 : Hid (lnErr kg kd rl2 = 0 ∧ rl2.all (agB kg kd so) = true) := Lib.hid ⟨lnErr_tail HTS.out.1, by have := HTS.out.2; rw [List.all_cons, Bool.and_eq_true] at this; exact this.2⟩
                    have hl2 : rl2.length ≤ 30 := by have := HL2.out; omega
                    clear hx0
                    have k0 := (HX.out.kk.gb).at 0 (v := .slice K kg.cells.length kc) rfl
                    have k1 := (HX.out.kk.gb).at 1 (v := vi kg.slo) rfl
                    have k2 := (HX.out.kk.gb).at 2 (v := vi kg.shi) rfl
                    have k3 := (HX.out.kk.gb).at 3 (v := vi kg.klo) rfl
                    have k4 := (HX.out.kk.gb).at 4 (v := vi kg.khi) rfl
                    have k5 := (HX.out.kk.gb).at 5 (v := vi kg.melt) rfl
                    go_upto_region 25 with fail
                    refine wp_words (by kernel_rfl) (region_late 13 12 (by kernel_rfl) (by kernel_rfl) (by decide) (by kernel_rfl) (fun W => Below wv.heap.size wv W) (pickB [vIs (gndV K kc kg), vGn kg, vIs (.slice E kd.length ec), vDy kd, vIs (.slice (some ⟨ib, io, none⟩) xs.length rp0), vIs (.slice ad (xs.length - 1) (rp0 - 1)), vRg rl2, vLn kg kd rl2, vLn kg kd rl2, vLa kg kd rl2, vIs (vi 0), vNew wv.heap.size 36 #[vi 0, vi 0], (fun _ _ => True)] [(fun _ _ => True), (fun _ _ => True), (fun _ _ => True), (fun _ _ => True), (fun _ _ => True), (fun _ _ => True), (fun _ _ => True), (fun _ _ => True), vLn kg kd rl2, (fun _ _ => True), vIs (vi 0), vSto wv.heap.size kg kd rl2, (fun _ _ => True)]) (pickB_stable ⟨vIs_st, vGn_st, vIs_st, vDy_st, vIs_st, vIs_st, vRg_st, vLn_st, vLn_st, vLa_st, vIs_st, vNew_st, (fun _ _ _ h _ => h), trivial⟩ ⟨(fun _ _ _ h _ => h), (fun _ _ _ h _ => h), (fun _ _ _ h _ => h), (fun _ _ _ h _ => h), (fun _ _ _ h _ => h), (fun _ _ _ h _ => h), (fun _ _ _ h _ => h), (fun _ _ _ h _ => h), vLn_st, (fun _ _ _ h _ => h), vIs_st, vSto_st, (fun _ _ _ h _ => h), trivial⟩) (Below.refl _ wv).drew ?_ ?_)
                    · refine ⟨?_, ?_, ?_, ?_, ?_, ?_, ?_, ?_, ?_, ?_, ?_, ?_, ?_, trivial⟩
                      · intro a W hG hO hp
                        have h12 := hO.slot 12 (by kernel_rfl)
                        have c0 := keep_cell k0 hG
                        have c1 := keep_cell k1 hG
                        have c2 := keep_cell k2 hG
                        have c3 := keep_cell k3 hG
                        have c4 := keep_cell k4 hG
                        have c5 := keep_cell k5 hG
                        refine wp_yields (v := gndV K kc kg) ?_ ⟨_, rfl, rfl, Below.refl _ _, hG⟩
                        simp [slotOf] at h12
                        simp [execOp, go_sem, h12, c0, c1, c2, c3, c4, c5]
                      · intro a W hG hO hp
                        have h193 : slotOf a 193 = gndV K kc kg := hp.1
                        refine wp_enters (f := 19) (args := #[gndV K kc kg]) ?_ ((lawGround kg K kc W (by omega) (HX.out.kk.next hG).hc).mono ?_)
                        · simp [slotOf] at h193
                          simp [go_sem, h193]
                        · rintro e w' ⟨Ax, cx, rfl, h2, hb⟩
                          exact ⟨_, rfl, _, rfl, ⟨Ax, cx, rfl, h2⟩, hb, below_next hG hb⟩
                      · intro a W hG hO hp
                        have h13 := hO.slot 13 (by kernel_rfl)
                        refine wp_yields (v := .slice E kd.length ec) ?_ ⟨_, rfl, rfl, Below.refl _ _, hG⟩
                        simp [slotOf] at h13
                        simp [execOp, go_sem, h13]
                      · intro a W hG hO hp
                        have h195 : slotOf a 195 = .slice E kd.length ec := hp.1
                        refine wp_enters (f := 20) (args := #[.slice E kd.length ec]) ?_ ((lawDays kd E ec W (by omega) (HX.out.next hG).kd).mono ?_)
                        · simp [slotOf] at h195
                          simp [go_sem, h195]
                        · rintro e w' ⟨Ax, cx, rfl, h2, hb⟩
                          exact ⟨_, rfl, _, rfl, ⟨Ax, cx, rfl, h2⟩, hb, below_next hG hb⟩
                      · intro a W hG hO hp
                        have h18 := hO.slot 18 (by kernel_rfl)
                        refine wp_yields (v := .slice (some ⟨ib, io, none⟩) xs.length rp0) ?_ ⟨_, rfl, rfl, Below.refl _ _, hG⟩
                        simp [slotOf] at h18
                        simp [execOp, go_sem, h18]
                      · intro a W hG hO hp
                        have h197 : slotOf a 197 = .slice (some ⟨ib, io, none⟩) xs.length rp0 := hp.1
                        refine wp_yields (v := .slice ad (xs.length - 1) (rp0 - 1)) ?_ ⟨_, rfl, rfl, Below.refl _ _, hG⟩
                        simp [slotOf] at h197
                        simp [execOp, go_sem, h197, hx3, hAD]
                      · intro a W hG hO hp
                        have h198 : slotOf a 198 = .slice ad (xs.length - 1) (rp0 - 1) := hp.1
                        have hlr := lawReadings rl2 ad (rp0 - 1) W (by omega) ((HT2.out.below hG).more hG.size)
                        rw [HL2.out] at hlr
                        refine wp_enters (f := 43) (args := #[.slice ad (xs.length - 1) (rp0 - 1)]) ?_ (hlr.mono ?_)
                        · simp [slotOf] at h198
                          simp [go_sem, h198]
                        · rintro e w' ⟨⟨vx, rfl, hv⟩, hb⟩
                          exact ⟨_, rfl, _, rfl, hv, hb, below_next hG hb⟩
                      · intro a W hG hO hp
                        have h194 := hp.1
                        have h196 := hp.2.1
                        have h199 := hp.2.2.1
                        obtain ⟨Ag, cg, h194, hrg⟩ := h194
                        obtain ⟨Ad, cd, h196, hrd⟩ := h196
                        obtain ⟨Ar, cr, h199, hrr⟩ := h199
                        refine wp_enters (f := 42) (args := #[gndV Ag cg kg, .slice Ad kd.length cd, .slice Ar rl2.length cr]) ?_ ((learn_told kg Ag cg kd Ad cd rl2 Ar cr W hrg hrd hrr HS2.out.1 so HS2.out.2 HKS.out.1 HKS.out.2).mono ?_)
                        · simp [slotOf] at h194 h196 h199
                          simp [go_sem, h194, h196, h199]
                        · rintro e w' ⟨⟨vx, rfl, hv⟩, hb⟩
                          exact ⟨_, rfl, _, rfl, hv, hb, below_next hG hb⟩
                      · intro a W hG hO hp
                        have h200 := hp.1
                        obtain ⟨lo2, hi2, h200, hto⟩ := h200
                        refine wp_yields (v := .tuple #[.agg #[vi lo2, vi hi2], vi 0]) ?_ ⟨_, rfl, ⟨lo2, hi2, rfl, hto⟩, Below.refl _ _, hG⟩
                        simp [slotOf] at h200
                        simp [execOp, go_sem, h200]
                      · intro a W hG hO hp
                        have h192 := hp.1
                        obtain ⟨lo2, hi2, h192, hto⟩ := h192
                        refine wp_yields (v := .agg #[vi lo2, vi hi2]) ?_ ⟨_, rfl, ⟨lo2, hi2, rfl, hto⟩, Below.refl _ _, hG⟩
                        simp [slotOf] at h192
                        simp [execOp, go_sem, h192]
                      · intro b a W hG hO hp
                        have h192 : vLn kg kd rl2 (slotOf a 192) W := by cases b <;> exact hp.1
                        obtain ⟨lo2, hi2, h192, hto⟩ := h192
                        refine wp_yields (v := vi 0) ?_ ⟨_, rfl, (by cases b <;> rfl), Below.refl _ _, hG⟩
                        simp [slotOf] at h192
                        simp [execOp, go_sem, h192]
                      · intro a W hG hO hp
                        refine wp_makes (v := .pointer (some ⟨W.heap.size, 0, none⟩)) (W' := W.alloc (.cells #[vi 0, vi 0] 36)) ?_ ⟨_, rfl, ⟨_, rfl, hG.size, Whole.made _ _ _⟩, (Below.refl _ _).alloc (Nat.le_refl _) _, hG.alloc hG.size _⟩
                        skip
                        simp [execOp, go_sem]
                      · intro a W hG hO hp
                        have h25 := hp.1
                        have h201 := hp.2.1
                        obtain ⟨fb, h25, hfb, hwf⟩ := h25
                        obtain ⟨lo2, hi2, h201, hto⟩ := h201
                        have b0 := hwf.at 0 rfl
                        have b1 := hwf.at 1 rfl
                        have f0 := hwf.free 0
                        have f1 := hwf.free 1
                        have hq := h25
                        simp [slotOf] at h25 h201
                        refine wp_stores (W' := (W.setCell ⟨fb, 0, none⟩ (vi lo2)).setCell ⟨fb, 1, none⟩ (vi hi2)) (by simp [execOp, go_sem, h25, h201, b0, b1, f0, f1]) ⟨rfl, (hG.setCell (p := ⟨fb, 0, none⟩) hfb _).setCell (p := ⟨fb, 1, none⟩) hfb _, ?_⟩
                        intro j oj d hj hoj hd hD
                        match j, hoj, hD with
                        | 0, _, _ => trivial
                        | 1, _, _ => trivial
                        | 2, _, _ => trivial
                        | 3, _, _ => trivial
                        | 4, _, _ => trivial
                        | 5, _, _ => trivial
                        | 6, _, _ => trivial
                        | 7, _, _ => trivial
                        | 8, _, hD => exact hD
                        | 9, _, _ => trivial
                        | 10, _, hD => exact hD
                        | 11, hoj, _ =>
                          obtain rfl := Option.some.inj hoj
                          obtain rfl := Option.some.inj hd
                          exact ⟨fb, hq, hfb, lo2, hi2, (hwf.set 0 _).set 1 _, hto⟩
                        | 12, _, _ => trivial
                        | (_ + 13), _, _ => omega
                    · intro W hG
                      rintro _ - _ - _ - _ - _ - _ - _ - _ - _ - _ - _ rfl _ ⟨fb, rfl, hfb, lo2, hi2, hwf, hto⟩
                      change wpList _ _ _ _ _ _
                      simp only [Act.put, List.setIfInBounds_toArray, List.set_cons_zero, List.set_cons_succ, List.drop_succ_cons, List.drop_zero]
                      have hfew := HTO.out.few hto
                      have hz1 : ¬ (lo < lo2) := by omega
                      have hz2 : ¬ (hi2 < hi) := by omega
                      clear hfb hto hfew k0 k1 k2 k3 k4 k5 x0 x1
                      have hn := hG
                      have hwy := hwf
                      clear hG hwf
                      have z0 := hwy.at 0 (v := vi lo2) rfl
                      have z1 := hwy.at 1 (v := vi hi2) rfl
                      have x0 := (HR.out.next hn).rb.at 0 (v := vi lo) rfl
                      have x1 := (HR.out.next hn).rb.at 1 (v := vi hi) rfl
                      have HN := Lib.hid hn
                      clear hn hwy
                      go_wp2_with fail
                      go_meet
                      exact ⟨HX.out.next HN.out, HR.out.next HN.out⟩
              case rest =>
                as_aux_lemma =>
                  obtain ⟨hx, hr⟩ := hcut
                  clear HX HR x0 x1
                  have HX := Lib.hid hx
                  have HR := Lib.hid hr
                  clear hx hr
                  have hg := (fault_zero HFZ.out).1
                  simp only [gndB, Bool.and_eq_true, inB, upB, decide_eq_true_eq] at hg
                  obtain ⟨⟨⟨⟨⟨_, _⟩, _⟩, hgk⟩, _⟩, _⟩ := hg
                  have u0 := hgk.1.1
                  have u1 := hgk.1.2
                  have u2 := hgk.2
                  clear hgk
                  obtain ⟨u, hu⟩ : ∃ u, u = pickN g.klo g.khi soak := ⟨_, rfl⟩
                  have HU : Hid (g.klo ≤ u ∧ u ≤ g.khi) := Lib.hid (by rw [hu]; exact pickN_in u1)
                  have t0 := (HX.out.tt.tb).at 0 (v := vi sn) rfl
                  have t1 := (HX.out.tt.tb).at 1 (v := vi so) rfl
                  have t2 := (HX.out.tt.tb).at 2 (v := .slice L lv.length lp) rfl
                  have t3 := (HX.out.tt.tb).at 3 (v := .slice R rn.length rp) rfl
                  go_upto_region 29 with fail
                  refine genQ (fun X => newer wc X ∧ Whole X wc.heap.size 47 (truC sn so L lv.length lp R rn.length rp)) ⟨newer_allocH _ _, Whole.made _ _ _⟩ ?_
                  obtain ⟨sb, hsb⟩ : ∃ sb, sb = wc.heap.size := ⟨_, rfl⟩
                  rw [← hsb]
                  have HSZ : Hid (wc.heap.size ≤ sb) := Lib.hid (by omega)
                  clear hsb t0 t1 t2 t3
                  rintro wy ⟨hn, hw⟩
                  have HN := Lib.hid (And.intro hn hw)
                  have HXy := Lib.hid (HX.out.next hn)
                  clear hn hw
                  have HPK := Lib.hid (pick_any g.klo g.khi soak wy u0 u1 (by omega) hs0 hs1)
                  rw [← hu] at HPK
                  clear hu u0 u1 u2
                  have g0 := (HXy.out.lw.gb).at 0 (v := .slice A g.cells.length cp) rfl
                  have g1 := (HXy.out.lw.gb).at 1 (v := vi g.slo) rfl
                  have g2 := (HXy.out.lw.gb).at 2 (v := vi g.shi) rfl
                  have g3 := (HXy.out.lw.gb).at 3 (v := vi g.klo) rfl
                  have g4 := (HXy.out.lw.gb).at 4 (v := vi g.khi) rfl
                  have g5 := (HXy.out.lw.gb).at 5 (v := vi g.melt) rfl
                  go_wp2_with fail
                  refine (HPK.out).mono ?_
                  rintro e wz ⟨rfl, hbz⟩
                  have HW := Lib.hid (And.intro (newer_trans HN.out.1 hbz) (HN.out.2.below hbz HN.out.2.lt))
                  clear hbz HN HXy HPK g0 g1 g2 g3 g4 g5
                  have b1 := HW.out.2.at 1 rfl
                  have f1 := HW.out.2.free 1
                  go_upto_region 30 with fail
                  refine genQ (fun X => newer wc X ∧ Whole X sb 47 (truC sn u L lv.length lp R rn.length rp)) ⟨HW.out.1.setCell (p := ⟨sb, 1, none⟩) HSZ.out _, HW.out.2.set 1 _⟩ ?_
                  clear HW b1 f1
                  rintro wv ⟨hn, hw⟩
                  have HXv := Lib.hid (HX.out.next hn)
                  have HRv := Lib.hid (HR.out.next hn)
                  clear HX HR hn
                  have HX := HXv
                  have HR := HRv
                  clear HXv HRv
                  have HSB : Hid (TbH sb sn u lv L lp rn R rp wv) := Lib.hid ⟨hw, HX.out.tt.hl, HX.out.tt.hr⟩
                  clear hw
                  have k0 := (HX.out.kk.gb).at 0 (v := .slice K kg.cells.length kc) rfl
                  have k1 := (HX.out.kk.gb).at 1 (v := vi kg.slo) rfl
                  have k2 := (HX.out.kk.gb).at 2 (v := vi kg.shi) rfl
                  have k3 := (HX.out.kk.gb).at 3 (v := vi kg.klo) rfl
                  have k4 := (HX.out.kk.gb).at 4 (v := vi kg.khi) rfl
                  have k5 := (HX.out.kk.gb).at 5 (v := vi kg.melt) rfl
                  have s0 := (HSB.out.tb).at 0 (v := vi sn) rfl
                  have s1 := (HSB.out.tb).at 1 (v := vi u) rfl
                  have s2 := (HSB.out.tb).at 2 (v := .slice L lv.length lp) rfl
                  have s3 := (HSB.out.tb).at 3 (v := .slice R rn.length rp) rfl
                  refine wp_words (by kernel_rfl) (region_told 15 (by kernel_rfl) (by kernel_rfl) (fun W => Below wv.heap.size wv W) newer (pickD [vIs (gndV K kc kg), vGn kg, vIs (.slice E kd.length ec), vDy kd, vIs (truthV sn u L lv.length lp R rn.length rp), vTr sn u lv rn, vKn g days sn u lv rn, vKn g days sn u lv rn, vT1 g.cells.length days.length (tolF g days sn u lv rn), vT2a days.length, vSome, vIs (vi 0), vT1 g.cells.length days.length (tolF g days sn u lv rn), vT2a days.length, vSome]) (fun h k => newer_trans h k) (pickD_stable _ ⟨vIs_st, vGn_st, vIs_st, vDy_st, vIs_st, vTr_st, vKn_st, vKn_st, vT1_st, vT2a_st, vSome_st, vIs_st, vT1_st, vT2a_st, vSome_st, trivial⟩) (Below.refl _ wv).drew (Below.refl _ _) ?_ ?_)
                  · refine ⟨?_, ?_, ?_, ?_, ?_, ?_, ?_, ?_, ?_, ?_, ?_, ?_, ?_, ?_, ?_, trivial⟩
                    · intro a W hG hR hO hp
                      have h12 := hO.slot 12 (by kernel_rfl)
                      have c0 := keep_cell k0 hG
                      have c1 := keep_cell k1 hG
                      have c2 := keep_cell k2 hG
                      have c3 := keep_cell k3 hG
                      have c4 := keep_cell k4 hG
                      have c5 := keep_cell k5 hG
                      refine wp_yields (v := gndV K kc kg) ?_ ⟨_, rfl, rfl, Below.refl _ _, hG⟩
                      simp [slotOf] at h12
                      simp [execOp, go_sem, h12, c0, c1, c2, c3, c4, c5]
                    · intro a W hG hR hO hp
                      have h226 : slotOf a 226 = gndV K kc kg := hp.1
                      refine wp_enters (f := 19) (args := #[gndV K kc kg]) ?_ ((lawGround kg K kc W (by omega) (HX.out.kk.next hG).hc).mono ?_)
                      · simp [slotOf] at h226
                        simp [go_sem, h226]
                      · rintro e w' ⟨Ax, cx, rfl, h2, hb⟩
                        exact ⟨_, rfl, _, rfl, ⟨Ax, cx, rfl, h2⟩, hb, below_next hG hb⟩
                    · intro a W hG hR hO hp
                      have h13 := hO.slot 13 (by kernel_rfl)
                      refine wp_yields (v := .slice E kd.length ec) ?_ ⟨_, rfl, rfl, Below.refl _ _, hG⟩
                      simp [slotOf] at h13
                      simp [execOp, go_sem, h13]
                    · intro a W hG hR hO hp
                      have h228 : slotOf a 228 = .slice E kd.length ec := hp.1
                      refine wp_enters (f := 20) (args := #[.slice E kd.length ec]) ?_ ((lawDays kd E ec W (by omega) (HX.out.next hG).kd).mono ?_)
                      · simp [slotOf] at h228
                        simp [go_sem, h228]
                      · rintro e w' ⟨Ax, cx, rfl, h2, hb⟩
                        exact ⟨_, rfl, _, rfl, ⟨Ax, cx, rfl, h2⟩, hb, below_next hG hb⟩
                    · intro a W hG hR hO hp
                      have h27 := hO.slot 27 (by kernel_rfl)
                      have c0 := keep_cell s0 hG
                      have c1 := keep_cell s1 hG
                      have c2 := keep_cell s2 hG
                      have c3 := keep_cell s3 hG
                      refine wp_yields (v := truthV sn u L lv.length lp R rn.length rp) ?_ ⟨_, rfl, rfl, Below.refl _ _, hG⟩
                      simp [slotOf] at h27
                      simp [execOp, go_sem, h27, c0, c1, c2, c3]
                    · intro a W hG hR hO hp
                      have h230 : slotOf a 230 = truthV sn u L lv.length lp R rn.length rp := hp.1
                      refine wp_enters (f := 33) (args := #[truthV sn u L lv.length lp R rn.length rp]) ?_ ((lawTruth sn u lv rn L lp R rp W (by omega) (by omega) (HSB.out.next hG).hl (HSB.out.next hG).hr).mono ?_)
                      · simp [slotOf] at h230
                        simp [go_sem, h230]
                      · rintro e w' ⟨⟨vx, rfl, hv⟩, hb⟩
                        exact ⟨_, rfl, _, rfl, hv, hb, below_next hG hb⟩
                    · intro a W hG hR hO hp
                      have h227 := hp.1
                      have h229 := hp.2.1
                      have h231 := hp.2.2.1
                      obtain ⟨Ag, cg, h227, hrg⟩ := h227
                      obtain ⟨Ad, cd, h229, hrd⟩ := h229
                      obtain ⟨Lt, lt, Rt, rt, h231, hrl, hrr⟩ := h231
                      refine wp_enters (f := 32) (args := #[gndV Ag cg kg, .slice Ad kd.length cd, truthV sn u Lt lv.length lt Rt rn.length rt]) ?_ ((kn_run HFZ.out HFT.out HKE.out.1 HKE.out.2 u HU.out.1 HU.out.2 Ag cg Ad cd Lt lt Rt rt W hrg hrd hrl hrr).mono ?_)
                      · simp [slotOf] at h227 h229 h231
                        simp [go_sem, h227, h229, h231]
                      · rintro e w' ⟨⟨vx, rfl, hv⟩, hb⟩
                        exact ⟨_, rfl, _, rfl, hv, hb, below_next hG hb⟩
                    · intro a W hG hR hO hp
                      have h232 := hp.1
                      obtain ⟨v1, v2, s3, h232, hv1, hv2⟩ := h232
                      refine wp_yields (v := .tuple #[v1, v2, vi s3, vi 0]) ?_ ⟨_, rfl, ⟨v1, v2, s3, rfl, hv1, hv2⟩, Below.refl _ _, hG⟩
                      simp [slotOf] at h232
                      simp [execOp, go_sem, h232]
                    · intro a W hG hR hO hp
                      have h225 := hp.1
                      obtain ⟨v1, v2, s3, h225, hv1, hv2⟩ := h225
                      refine wp_yields (v := v1) ?_ ⟨_, rfl, hv1, Below.refl _ _, hG⟩
                      simp [slotOf] at h225
                      simp [execOp, go_sem, h225]
                    · intro a W hG hR hO hp
                      have h225 := hp.1
                      obtain ⟨v1, v2, s3, h225, hv1, hv2⟩ := h225
                      refine wp_yields (v := v2) ?_ ⟨_, rfl, hv2, Below.refl _ _, hG⟩
                      simp [slotOf] at h225
                      simp [execOp, go_sem, h225]
                    · intro a W hG hR hO hp
                      have h225 := hp.1
                      obtain ⟨v1, v2, s3, h225, hv1, hv2⟩ := h225
                      refine wp_yields (v := vi s3) ?_ ⟨_, rfl, ⟨_, rfl⟩, Below.refl _ _, hG⟩
                      simp [slotOf] at h225
                      simp [execOp, go_sem, h225]
                    · intro a W hG hR hO hp
                      have h225 := hp.1
                      obtain ⟨v1, v2, s3, h225, hv1, hv2⟩ := h225
                      refine wp_yields (v := vi 0) ?_ ⟨_, rfl, rfl, Below.refl _ _, hG⟩
                      simp [slotOf] at h225
                      simp [execOp, go_sem, h225]
                    · intro a W hG hR hO hp
                      have h233 := hp.1
                      obtain ⟨Qx, cqx, Ax, cx, bx, h233, hq1, hq2⟩ := h233
                      refine wp_yields (v := .slice Qx days.length cqx) ?_ ⟨_, rfl, ⟨Qx, cqx, Ax, cx, bx, rfl, hq1, hq2⟩, Below.refl _ _, hG⟩
                      simp [slotOf] at h233
                      simp [execOp, go_sem, h233]
                    · intro a W hG hR hO hp
                      have h234 := hp.1
                      obtain ⟨sl, Qx, cqx, bx, h234, hq1⟩ := h234
                      refine wp_yields (v := .slice Qx days.length cqx) ?_ ⟨_, rfl, ⟨sl, Qx, cqx, bx, rfl, hq1⟩, Below.refl _ _, hG⟩
                      simp [slotOf] at h234
                      simp [execOp, go_sem, h234]
                    · intro a W hG hR hO hp
                      have h235 := hp.1
                      obtain ⟨s3, h235⟩ := h235
                      refine wp_yields (v := vi s3) ?_ ⟨_, rfl, ⟨_, rfl⟩, Below.refl _ _, hG⟩
                      simp [slotOf] at h235
                      simp [execOp, go_sem, h235]
                  · intro W hG hR
                    rintro _ rfl _ ⟨_, _, rfl, -⟩ _ rfl _ ⟨_, _, rfl, -⟩ _ rfl _ ⟨_, _, _, _, rfl, -, -⟩ _ ⟨_, _, _, rfl, -, -⟩ _ ⟨_, _, _, rfl, -, -⟩ _ ⟨_, _, _, _, _, rfl, -, -⟩ _ ⟨_, _, _, _, rfl, -⟩ _ ⟨_, rfl⟩ _ rfl _ ⟨Q2, cq2, Af2, cf2, bs2, rfl, hT2, hR2⟩ _ ⟨_, _, _, _, rfl, -⟩ _ ⟨_, rfl⟩
                    change wpList _ _ _ _ _ _
                    simp only [Act.put, List.setIfInBounds_toArray, List.set_cons_zero, List.set_cons_succ, List.drop_succ_cons, List.drop_zero]
                    have HXv := Lib.hid (HX.out.next hG)
                    have HRv := Lib.hid (HR.out.next hG)
                    have HSv := Lib.hid (HSB.out.next hG)
                    have HV2 := Lib.hid (show vT1 g.cells.length days.length (tolF g days sn u lv rn) (.slice Q2 days.length cq2) _ from ⟨Q2, cq2, Af2, cf2, bs2, rfl, hT2, hR2⟩)
                    clear hG hR hT2 hR2 HX HR HSB k0 k1 k2 k3 k4 k5 s0 s1 s2 s3
                    obtain ⟨wv, hwv⟩ : ∃ wv, wv = W := ⟨_, rfl⟩
                    rw [← hwv] at HXv HRv HSv HV2 ⊢
                    clear hwv W
                    have HRW := Lib.hid (rows_any wv (by omega) HRv.out.lv HV2.out)
                    go_wp2_with fail
                    refine (HRW.out).mono ?_
                    rintro e w6 ⟨rfl, hb6⟩
                    have HX := Lib.hid (HXv.out.next hb6)
                    have HR := Lib.hid (HRv.out.next hb6)
                    have HSB := Lib.hid (HSv.out.next hb6)
                    have HV := Lib.hid (vT1_st _ _ _ HV2.out hb6)
                    clear hb6 HXv HRv HSv HV2 HRW
                    go_wp2_with fail
                    go_loopw [32, 33] (fun s32 s33 wr => ∃ k : Nat, k ≤ xs.length ∧ s33 = .int .i64 k ∧ s32 = .bool (tolB g.cells.length days.length (tolF g days sn so lv rn) (tolF g days sn u lv rn) (xs.map Word.n) k) ∧ newer w6 wr) (fun _ s33 _ => xs.length - (intOf s33).toNat)
                    case atStart => exact ⟨0, Nat.zero_le _, rfl, rfl, Below.refl _ _⟩
                    case round =>
                      obtain ⟨k, hk, rfl, rfl, hnr⟩ := hrel
                      have HXr := Lib.hid (HX.out.next hnr)
                      have HRr := Lib.hid (HR.out.next hnr)
                      have HSr := Lib.hid (HSB.out.next hnr)
                      have HVr := Lib.hid (vT1_st _ _ _ HV.out hnr)
                      have HNR := Lib.hid hnr
                      clear hnr
                      by_cases hlt : k < xs.length
                      · have hkn : (k : Int) < xs.length := by omega
                        obtain ⟨x, hx⟩ := get_of_lt hlt
                        obtain ⟨cn, dn, q8, q2, q10, ta, tb2, _, _, _, _, _, _, _, hcn1, hdn1, _, _, _, _, _, hdk, hck, hrd⟩ := tol_word (n := g.cells.length) (m := days.length) hn1 hdm x.lo x.hi
                        have HRK : Hid (rl[k]? = some (tolR g.cells.length days.length (tolF g days sn so lv rn) x.n)) := Lib.hid (by rw [HRL.out.1, List.getElem?_map, List.getElem?_map, hx]; rfl)
                        have HNX := Lib.hid (tolB_next (n := g.cells.length) (m := days.length) (f := tolF g days sn so lv rn) (f' := tolF g days sn u lv rn) (ws := xs.map Word.n) (k := k) (w := x.n) (by rw [List.getElem?_map, hx]; rfl))
                        rw [hdk, hck] at HNX
                        rw [hrd] at HRK HNX
                        obtain ⟨lx, hlx⟩ : ∃ lx, lx = tolF g days sn u lv rn dn cn := ⟨_, rfl⟩
                        rw [← hlx] at HNX
                        obtain ⟨ra, hra⟩ : ∃ ra, ra = mxI 0 (tolF g days sn so lv rn dn cn - ta) := ⟨_, rfl⟩
                        obtain ⟨rb, hrb⟩ : ∃ rb, rb = mnI 100000 (tolF g days sn so lv rn dn cn + tb2) := ⟨_, rfl⟩
                        rw [← hra, ← hrb] at HNX HRK
                        obtain ⟨tk, htk⟩ : ∃ tk, tk = tolB g.cells.length days.length (tolF g days sn so lv rn) (tolF g days sn u lv rn) (xs.map Word.n) k := ⟨_, rfl⟩
                        rw [← htk] at HNX ⊢
                        obtain ⟨ib, io, hR0, _, r0, r1, r2, r3⟩ := row4 HRr.out.rd HRK.out
                        dsimp only at r0 r1 r2 r3
                        subst hR0
                        obtain ⟨q1, Ay, cy, e2, y1, hry⟩ := vT1_at HVr.out hdn1
                        obtain ⟨yb, yo, e3, _, y2⟩ := cells_of_row hry hcn1
                        subst e2
                        subst e3
                        rw [← hlx] at y2
                        have hcn2 : (cn : Int) < g.cells.length := by omega
                        have hdn2 : (dn : Int) < days.length := by omega
                        clear hlx hry hra hrb htk hrd hdk hck hx hcn1 hdn1 HRK
                        go_wp2_with fail
                        go_quiet (fail)
                        have r2' := keep_cell r2 (newer_drewN wr nq)
                        have r3' := keep_cell r3 (newer_drewN wr nq)
                        have HN2 := Lib.hid (newer_trans HNR.out (newer_drewN wr nq))
                        clear r0 r1 r2 r3 y1 y2 hcn2 hdn2
                        generalize wr.drewN nq = wy at r2' r3' HN2 ⊢
                        cases tk
                        · go_wp2_with fail
                          exact ⟨⟨k + 1, by omega, by go_num, by rw [HNX.out]; rfl, HN2.out⟩, by (simp only [intOf]; omega)⟩
                        · by_cases h1 : ra ≤ lx
                          · by_cases h2 : lx ≤ rb
                            · go_wp2_with fail
                              exact ⟨⟨k + 1, by omega, by go_num, by rw [HNX.out]; simp [inB, h1, h2], HN2.out⟩, by (simp only [intOf]; omega)⟩
                            · go_wp2_with fail
                              exact ⟨⟨k + 1, by omega, by go_num, by rw [HNX.out]; simp [inB]; omega, HN2.out⟩, by (simp only [intOf]; omega)⟩
                          · go_wp2_with fail
                            exact ⟨⟨k + 1, by omega, by go_num, by rw [HNX.out]; simp [inB]; omega, HN2.out⟩, by (simp only [intOf]; omega)⟩
                      · obtain rfl : k = xs.length := by omega
                        have hkn : ¬ ((xs.length : Int) < xs.length) := by omega
                        have hEQ : tolB g.cells.length days.length (tolF g days sn so lv rn) (tolF g days sn u lv rn) (xs.map Word.n) xs.length = inB u lo hi := by
                          have h := tolB_all (so := so) (sn := sn) (rn := rn) HFZ.out (fits_len HFT.out).1 hdm (xs.map Word.n) u
                          rw [List.length_map] at h
                          rw [h, ← HRL.out.1, ← HKE.out.1, ← HKE.out.2]
                          exact HTO.out.says u (by rw [HKE.out.1]; exact HU.out.1) (by rw [HKE.out.1]; exact HU.out.2)
                        rw [hEQ]
                        clear hEQ
                        have s1 := HSr.out.tb.at 1 (v := vi u) rfl
                        have x0 := HRr.out.rb.at 0 (v := vi lo) rfl
                        have x1 := HRr.out.rb.at 1 (v := vi hi) rfl
                        by_cases h1 : lo ≤ u
                        · by_cases h2 : u ≤ hi
                          · rw [show inB u lo hi = true by simp [inB, h1, h2]]
                            go_wp2_with fail
                            refine (wakes_any _).mono ?_
                            rintro e wz ⟨rfl, hbz⟩
                            have HF := Lib.hid (below_next HXr.out.lw.below hbz)
                            clear hbz s1 x0 x1
                            go_wp2_with fail
                            go_ret
                            exact ⟨rfl, HF.out⟩
                          · rw [show inB u lo hi = false by simp [inB]; omega]
                            go_wp2_with fail
                            refine (wakes_any _).mono ?_
                            rintro e wz ⟨rfl, hbz⟩
                            have HF := Lib.hid (below_next HXr.out.lw.below hbz)
                            clear hbz s1 x0 x1
                            go_wp2_with fail
                            go_ret
                            exact ⟨rfl, HF.out⟩
                        · rw [show inB u lo hi = false by simp [inB]; omega]
                          go_wp2_with fail
                          refine (wakes_any _).mono ?_
                          rintro e wz ⟨rfl, hbz⟩
                          have HF := Lib.hid (below_next HXr.out.lw.below hbz)
                          clear hbz s1 x0 x1
                          go_wp2_with fail
                          go_ret
                          exact ⟨rfl, HF.out⟩
  · have hrf : readyB g days = false := by simpa using hrd
    rw [hrf] at HRD
    clear hrd hrf
    go_enter Try.func14, Try.ntmps14
    go_wp2_with fail
    refine (HRD.out).mono ?_
    rintro e w1 ⟨rfl, hb1⟩
    have H1 := Lib.hid (HL0.out.next hb1)
    clear hb1 HRD HL0
    go_wp2_with fail
    refine (wakes_any _).mono ?_
    rintro e wz ⟨rfl, hbz⟩
    have HF := Lib.hid (below_next H1.out.below hbz)
    clear hbz
    go_wp2_with fail
    go_ret
    exact ⟨rfl, HF.out⟩
end Go.Proofs.Yteonkhohloabfaa
