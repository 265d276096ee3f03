/- The law WaterNames, walked: the document's examples, and the errors, are as it says. -/
import Derived.Test.YteonkhohloabfaaCE
import Derived.Deep.CutBlock
namespace Go.Proofs.Yteonkhohloabfaa
open Go.ChangeShapes Go.WideShapes Go.ChangeAt Go.RowKit Go.Deep

set_option maxRecDepth 100000 in
set_option maxHeartbeats 8000000 in
theorem waterNames_walk (w : World) : Calls Try.prog 15 #[] w fun e w' => e = .returned (.bool true) ∧ Below w.heap.size w w' := by
  go_enter Try.func15, Try.ntmps15
  go_upto_region 2 with fail
  refine genQ (fun X => NmA w 500 X) (NmA.made w) ?_
  intro wv hn
  have HN := Lib.hid hn
  clear hn
  have n0 := HN.out.tb.at 0 (v := vi 20) rfl
  have n1 := HN.out.tb.at 1 (v := vi 500) rfl
  have n2 := HN.out.tb.at 2 (v := .slice (some ⟨w.heap.size, 0, none⟩) 2 2) rfl
  have n3 := HN.out.tb.at 3 (v := .slice (some ⟨w.heap.size + 1, 0, none⟩) 3 3) rfl
  refine wp_words (by kernel_rfl) (region_told 12 (by kernel_rfl) (by kernel_rfl) (fun W => Below wv.heap.size wv W) newer (pickD [vGn bankG, vDy marchD, vIs (.agg #[vi 20, vi 500, .slice (some ⟨w.heap.size, 0, none⟩) 2 2, .slice (some ⟨w.heap.size + 1, 0, none⟩) 3 3]), vNmL, vNmL, vT1 2 3 lowF, vT2 3 lowG, vIs (vi 6), vIs (vi 0), vT1 2 3 lowF, vT2 3 lowG, vIs (vi 6)]) (fun h k => newer_trans h k) (pickD_stable _ ⟨vGn_st, vDy_st, vIs_st, vNmL_st, vNmL_st, vT1_st, vT2_st, vIs_st, vIs_st, vT1_st, vT2_st, vIs_st, trivial⟩) (Below.refl _ wv).drew (Below.refl _ _) ?_ ?_)
  · refine ⟨?_, ?_, ?_, ?_, ?_, ?_, ?_, ?_, ?_, ?_, ?_, ?_, trivial⟩
    · intro a W hG hR hO hp
      refine wp_enters (f := 48) (args := #[]) ?_ ((bank_any W).mono ?_)
      · simp [go_sem]
      · rintro e w' ⟨b, rfl, hr, hb⟩
        exact ⟨_, rfl, _, rfl, ⟨_, _, rfl, hr⟩, hb, below_next hG hb⟩
    · intro a W hG hR hO hp
      refine wp_enters (f := 49) (args := #[]) ?_ ((march_any W).mono ?_)
      · simp [go_sem]
      · rintro e w' ⟨b, rfl, hr, hb⟩
        exact ⟨_, rfl, _, rfl, ⟨_, _, rfl, hr⟩, hb, below_next hG hb⟩
    · intro a W hG hR hO hp
      have h1 := hO.slot 1 (by kernel_rfl)
      have c0 := keep_cell n0 hG
      have c1 := keep_cell n1 hG
      have c2 := keep_cell n2 hG
      have c3 := keep_cell n3 hG
      refine wp_yields (v := .agg #[vi 20, vi 500, .slice (some ⟨w.heap.size, 0, none⟩) 2 2, .slice (some ⟨w.heap.size + 1, 0, none⟩) 3 3]) ?_ ⟨_, rfl, rfl, Below.refl _ _, hG⟩
      simp [slotOf] at h1
      simp [execOp, go_sem, h1, c0, c1, c2, c3]
    · intro a W hG hR hO hp
      have h46 := hp.1
      have h47 := hp.2.1
      have h48 : slotOf a 48 = .agg #[vi 20, vi 500, .slice (some ⟨w.heap.size, 0, none⟩) 2 2, .slice (some ⟨w.heap.size + 1, 0, none⟩) 3 3] := hp.2.2.1
      obtain ⟨Ag, cg, h46, hrg⟩ := h46
      obtain ⟨Ad, cd, h47, hrd⟩ := h47
      refine wp_enters (f := 32) (args := #[gndV Ag cg bankG, .slice Ad marchD.length cd, .agg #[vi 20, vi 500, .slice (some ⟨w.heap.size, 0, none⟩) 2 2, .slice (some ⟨w.heap.size + 1, 0, none⟩) 3 3]]) ?_ ((low_ok Ag cg Ad cd _ 2 _ 3 W hrg hrd (HN.out.next hG).rowL (HN.out.next hG).rowR).mono ?_)
      · simp [slotOf] at h46 h47 h48
        simp [go_sem, h46, h47, h48]
      · rintro e w' ⟨⟨vx, rfl, hv⟩, hb⟩
        exact ⟨_, rfl, _, rfl, hv, hb, below_next hG hb⟩
    · intro a W hG hR hO hp
      have h49 := hp.1
      obtain ⟨v1, v2, h49, hv1, hv2⟩ := h49
      refine wp_yields (v := .tuple #[v1, v2, vi 6, vi 0]) ?_ ⟨_, rfl, ⟨v1, v2, rfl, hv1, hv2⟩, Below.refl _ _, hG⟩
      simp [slotOf] at h49
      simp [execOp, go_sem, h49]
    · intro a W hG hR hO hp
      have h45 := hp.1
      obtain ⟨v1, v2, h45, hv1, hv2⟩ := h45
      refine wp_yields (v := v1) ?_ ⟨_, rfl, hv1, Below.refl _ _, hG⟩
      simp [slotOf] at h45
      simp [execOp, go_sem, h45]
    · intro a W hG hR hO hp
      have h45 := hp.1
      obtain ⟨v1, v2, h45, hv1, hv2⟩ := h45
      refine wp_yields (v := v2) ?_ ⟨_, rfl, hv2, Below.refl _ _, hG⟩
      simp [slotOf] at h45
      simp [execOp, go_sem, h45]
    · intro a W hG hR hO hp
      have h45 := hp.1
      obtain ⟨v1, v2, h45, hv1, hv2⟩ := h45
      refine wp_yields (v := vi 6) ?_ ⟨_, rfl, rfl, Below.refl _ _, hG⟩
      simp [slotOf] at h45
      simp [execOp, go_sem, h45]
    · intro a W hG hR hO hp
      have h45 := hp.1
      obtain ⟨v1, v2, h45, hv1, hv2⟩ := h45
      refine wp_yields (v := vi 0) ?_ ⟨_, rfl, rfl, Below.refl _ _, hG⟩
      simp [slotOf] at h45
      simp [execOp, go_sem, h45]
    · intro a W hG hR hO hp
      have h50 := hp.1
      obtain ⟨Qx, cqx, Ax, cx, bx, h50, hq1, hq2⟩ := h50
      refine wp_yields (v := .slice Qx 3 cqx) ?_ ⟨_, rfl, ⟨Qx, cqx, Ax, cx, bx, rfl, hq1, hq2⟩, Below.refl _ _, hG⟩
      simp [slotOf] at h50
      simp [execOp, go_sem, h50]
    · intro a W hG hR hO hp
      have h51 := hp.1
      obtain ⟨Qx, cqx, bx, h51, hq1⟩ := h51
      refine wp_yields (v := .slice Qx 3 cqx) ?_ ⟨_, rfl, ⟨Qx, cqx, bx, rfl, hq1⟩, Below.refl _ _, hG⟩
      simp [slotOf] at h51
      simp [execOp, go_sem, h51]
    · intro a W hG hR hO hp
      have h52 : slotOf a 52 = vi 6 := hp.1
      refine wp_yields (v := vi 6) ?_ ⟨_, rfl, rfl, Below.refl _ _, hG⟩
      simp [slotOf] at h52
      simp [execOp, go_sem, h52]
  · intro W hG hR
    rintro _ ⟨_, _, rfl, -⟩ _ ⟨_, _, rfl, -⟩ _ rfl _ ⟨_, _, rfl, -, -⟩ _ ⟨_, _, rfl, -, -⟩ _ ⟨_, _, _, _, _, rfl, -, -⟩ _ ⟨_, _, _, rfl, -⟩ _ rfl _ rfl _ ⟨Q1, cq1, Af, cf, bs1, rfl, hT1, hR1⟩ _ ⟨Q2, cq2, bs2, rfl, hT2⟩ _ rfl
    change wpList _ _ _ _ _ _
    simp only [Act.put, List.setIfInBounds_toArray, List.set_cons_zero, List.set_cons_succ, List.drop_succ_cons, List.drop_zero]
    have HNv := Lib.hid (HN.out.next hG)
    have HV1 := Lib.hid (show vT1 2 3 lowF (.slice Q1 3 cq1) _ from ⟨Q1, cq1, Af, cf, bs1, rfl, hT1, hR1⟩)
    have HV2 := Lib.hid (show vT2 3 lowG (.slice Q2 3 cq2) _ from ⟨Q2, cq2, bs2, rfl, hT2⟩)
    clear hG hR hT1 hR1 hT2 HN n0 n1 n2 n3
    have HN := HNv
    clear HNv
    go_wp2_with fail
    refine (bank_any _).mono ?_
    rintro e a1 ⟨bb, rfl, hr1, hb1⟩
    go_wp2_with fail
    refine (march_any _).mono ?_
    rintro e a2 ⟨db, rfl, hr2, hb2⟩
    have HL := Lib.hid (reach_ok bankG (some ⟨bb, 0, none⟩) 2 marchD (some ⟨db, 0, none⟩) 3 1 60 a2 (by decide) (by decide) ((hr1.below hb2).more hb2.size) hr2 bank_asks.1)
    rw [reach60.1, reach60.2] at HL
    have hbb := newer_trans hb1 hb2
    clear hr1 hr2 hb1 hb2
    go_wp2_with fail
    refine (HL.out).mono ?_
    rintro e a3 ⟨rfl, hb3⟩
    replace HN := Lib.hid (HN.out.next (newer_trans hbb hb3))
    replace HV1 := Lib.hid (vT1_st _ _ _ HV1.out (newer_trans hbb hb3))
    replace HV2 := Lib.hid (vT2_st _ _ _ HV2.out (newer_trans hbb hb3))
    clear hbb hb3 HL
    go_wp2_with fail
    refine (bank_any _).mono ?_
    rintro e b1 ⟨bb, rfl, hr1, hb1⟩
    go_wp2_with fail
    refine (march_any _).mono ?_
    rintro e b2 ⟨db, rfl, hr2, hb2⟩
    have HL := Lib.hid (reach_ok bankG (some ⟨bb, 0, none⟩) 2 marchD (some ⟨db, 0, none⟩) 3 1 35 b2 (by decide) (by decide) ((hr1.below hb2).more hb2.size) hr2 bank_asks.2.1)
    rw [reach35.1, reach35.2] at HL
    have hbb := newer_trans hb1 hb2
    clear hr1 hr2 hb1 hb2
    go_wp2_with fail
    refine (HL.out).mono ?_
    rintro e b3 ⟨rfl, hb3⟩
    replace HN := Lib.hid (HN.out.next (newer_trans hbb hb3))
    replace HV1 := Lib.hid (vT1_st _ _ _ HV1.out (newer_trans hbb hb3))
    replace HV2 := Lib.hid (vT2_st _ _ _ HV2.out (newer_trans hbb hb3))
    clear hbb hb3 HL
    go_wp2_with fail
    refine (bank_any _).mono ?_
    rintro e c1 ⟨bb, rfl, hr1, hb1⟩
    go_wp2_with fail
    refine (march_any _).mono ?_
    rintro e c2 ⟨db, rfl, hr2, hb2⟩
    have HL := Lib.hid (least_ok bankG (some ⟨bb, 0, none⟩) 2 marchD (some ⟨db, 0, none⟩) 3 1 60 c2 (by decide) (by decide) ((hr1.below hb2).more hb2.size) hr2 bank_asks.1)
    have hbb := newer_trans hb1 hb2
    clear hr1 hr2 hb1 hb2
    go_wp2_with fail
    refine (HL.out).mono ?_
    rintro e c3 ⟨n, hh, rfl, hb3⟩
    obtain rfl := least60 hh
    rw [if_neg (by omega)]
    clear hh
    replace HN := Lib.hid (HN.out.next (newer_trans hbb hb3))
    replace HV1 := Lib.hid (vT1_st _ _ _ HV1.out (newer_trans hbb hb3))
    replace HV2 := Lib.hid (vT2_st _ _ _ HV2.out (newer_trans hbb hb3))
    clear hbb hb3 HL
    go_wp2_with fail
    refine (bank_any _).mono ?_
    rintro e d1 ⟨bb, rfl, hr1, hb1⟩
    go_wp2_with fail
    refine (march_any _).mono ?_
    rintro e d2 ⟨db, rfl, hr2, hb2⟩
    have HL := Lib.hid (least_ok bankG (some ⟨bb, 0, none⟩) 2 marchD (some ⟨db, 0, none⟩) 3 1 58 d2 (by decide) (by decide) ((hr1.below hb2).more hb2.size) hr2 bank_asks.2.2.1)
    have hbb := newer_trans hb1 hb2
    clear hr1 hr2 hb1 hb2
    go_wp2_with fail
    refine (HL.out).mono ?_
    rintro e d3 ⟨n, hh, rfl, hb3⟩
    rw [if_pos (least58 hh)]
    clear hh
    replace HN := Lib.hid (HN.out.next (newer_trans hbb hb3))
    replace HV1 := Lib.hid (vT1_st _ _ _ HV1.out (newer_trans hbb hb3))
    replace HV2 := Lib.hid (vT2_st _ _ _ HV2.out (newer_trans hbb hb3))
    clear hbb hb3 HL
    obtain ⟨q1, Ay, cy, e1, y1, hry⟩ := vT1_at HV1.out (k := 2) (by omega)
    subst e1
    rw [show (List.range 2).map (lowF 2) = [102, 35] from low_lv] at hry
    have hrl := vT2_rowH HV2.out
    rw [show (List.range 3).map lowG = [35, 82, 34] from low_left] at hrl
    have HI1 := Lib.hid (lawInts [102, 35] [102, 35] Ay (some ⟨d3.heap.size, 0, none⟩) cy 2 (d3.alloc (.cells #[vi 102, vi 35] 3)) (by decide) (by decide) (row_alloc hry _) (row_of_whole (enc := intL) (s := 1) (fun _ => rfl) (Whole.made d3 3 _) rfl))
    rw [show decide (([102, 35] : List Int) = [102, 35]) = true from rfl] at HI1
    have HRL := Lib.hid (And.intro hrl HN.out)
    clear hry hrl HV1 HV2 HN
    go_wp2_with fail
    refine (HI1.out).mono ?_
    rintro e f1 ⟨rfl, hf1⟩
    have hfn := newer_trans (newer_allocH d3 (.cells #[vi 102, vi 35] 3)) hf1
    have hrl := (HRL.out.1.below hfn).more hfn.size
    have HI2 := Lib.hid (lawInts [35, 82, 34] [35, 82, 34] Q2 (some ⟨f1.heap.size, 0, none⟩) cq2 3 (f1.alloc (.cells #[vi 35, vi 82, vi 34] 3)) (by decide) (by decide) (row_alloc hrl _) (row_of_whole (enc := intL) (s := 1) (fun _ => rfl) (Whole.made f1 3 _) rfl))
    rw [show decide (([35, 82, 34] : List Int) = [35, 82, 34]) = true from rfl] at HI2
    have HN := Lib.hid (HRL.out.2.next (newer_trans hfn (newer_allocH f1 (.cells #[vi 35, vi 82, vi 34] 3))))
    clear hrl hfn hf1 HI1 HRL y1
    go_wp2_with fail
    refine (HI2.out).mono ?_
    rintro e f2 ⟨rfl, hf2⟩
    replace HN := Lib.hid (HN.out.next hf2)
    clear hf2 HI2
    go_wp2_with fail
    refine (bank_any _).mono ?_
    rintro e g1 ⟨bb, rfl, hr1, hb1⟩
    go_wp2_with fail
    refine (march_any _).mono ?_
    rintro e g2 ⟨db, rfl, hr2, hb2⟩
    have HL := Lib.hid (learn_no bankG (some ⟨bb, 0, none⟩) 2 marchD (some ⟨db, 0, none⟩) 3 [] none 0 g2 (by decide) (by decide) (by decide) ((hr1.below hb2).more hb2.size) hr2 (Row.nil _) 8 ln_state.symm (by decide))
    have hbb := newer_trans hb1 hb2
    clear hr1 hr2 hb1 hb2
    go_wp2_with fail
    refine (HL.out).mono ?_
    rintro e g3 ⟨rfl, hb3⟩
    go_upto_region 10 with fail
    refine genQ (fun X => NmA w 500 X) (HN.out.next (newer_trans (newer_trans hbb hb3) (newer_allocH _ _))) ?_
    clear hbb hb3 HL HN
    intro v0 hn
    have HN := Lib.hid hn
    clear hn
    go_wp2_with fail
    refine (bank_whole _).mono ?_
    rintro e h1 ⟨bb, rfl, hbb, hw, hb1⟩
    rw [show gndV (some ⟨bb, 0, none⟩) 2 bankG = .agg #[.slice (some ⟨bb, 0, none⟩) 2 2, vi 20, vi 30, vi 500, vi 600, vi 4] from rfl]
    have HW := Lib.hid (And.intro hw hb1)
    clear hw hb1
    go_upto_region 11 with fail
    refine genQ (fun X => newer v0 X ∧ NmB h1.heap.size bb 20 30 bankCs X) ⟨newer_trans HW.out.2 (newer_allocH _ _), Whole.made _ _ _, HW.out.1.alloc _⟩ ?_
    obtain ⟨sb, hsb⟩ : ∃ sb, sb = h1.heap.size := ⟨_, rfl⟩
    rw [← hsb]
    have HE : Hid (v0.heap.size ≤ bb ∧ v0.heap.size ≤ sb ∧ bb ≠ sb) := Lib.hid ⟨hbb, by rw [hsb]; exact HW.out.2.size, by have := HW.out.1.lt; omega⟩
    clear hsb hbb HW
    rintro wv ⟨hn, hB⟩
    have z0 := hB.sb.at 0 (v := .slice (some ⟨bb, 0, none⟩) 2 2) rfl
    have HB := Lib.hid (And.intro hn hB)
    clear hn hB
    refine wp_words (by kernel_rfl) (region_told 5 (by kernel_rfl) (by kernel_rfl) (fun W => Below wv.heap.size wv W) newer (pickD [vIs (.pointer (some ⟨sb, 0, none⟩)), vIs (.slice (some ⟨bb, 0, none⟩) 2 2), vIs (.agg #[vi 20, vi 20]), vIs (.agg #[vi 100, vi 100]), vIs (.pointer (some ⟨sb, 1, none⟩))]) (fun h k => newer_trans h k) (pickD_stable _ ⟨vIs_st, vIs_st, vIs_st, vIs_st, vIs_st, trivial⟩) (Below.refl _ wv).drew (Below.refl _ _) ?_ ?_)
    · refine ⟨?_, ?_, ?_, ?_, ?_, trivial⟩
      · intro a W hG hR hO hp
        have h18 := hO.slot 18 (by kernel_rfl)
        refine wp_yields (v := .pointer (some ⟨sb, 0, none⟩)) ?_ ⟨_, rfl, rfl, Below.refl _ _, hG⟩
        simp [slotOf] at h18
        simp [execOp, go_sem, h18]
      · intro a W hG hR hO hp
        have h148 : slotOf a 148 = .pointer (some ⟨sb, 0, none⟩) := hp.1
        have c0 := keep_cell z0 hG
        refine wp_yields (v := .slice (some ⟨bb, 0, none⟩) 2 2) ?_ ⟨_, rfl, rfl, Below.refl _ _, hG⟩
        simp [slotOf] at h148
        simp [execOp, go_sem, h148, c0]
      · intro a W hG hR hO hp
        refine wp_enters (f := 50) (args := #[.int .i64 20, .int .i64 20]) ?_ ((span_any 20 20 W).mono ?_)
        · skip
          simp [go_sem]
        · rintro e w' ⟨rfl, hb⟩
          exact ⟨_, rfl, _, rfl, rfl, hb, below_next hG hb⟩
      · intro a W hG hR hO hp
        refine wp_enters (f := 50) (args := #[.int .i64 100, .int .i64 100]) ?_ ((span_any 100 100 W).mono ?_)
        · skip
          simp [go_sem]
        · rintro e w' ⟨rfl, hb⟩
          exact ⟨_, rfl, _, rfl, rfl, hb, below_next hG hb⟩
      · intro a W hG hR hO hp
        have h18 := hO.slot 18 (by kernel_rfl)
        refine wp_yields (v := .pointer (some ⟨sb, 1, none⟩)) ?_ ⟨_, rfl, rfl, Below.refl _ _, hG⟩
        simp [slotOf] at h18
        simp [execOp, go_sem, h18]
    · intro W hG hR
      rintro _ rfl _ rfl _ rfl _ rfl _ rfl
      change wpList _ _ _ _ _ _
      simp only [Act.put, List.setIfInBounds_toArray, List.set_cons_zero, List.set_cons_succ, List.drop_succ_cons, List.drop_zero]
      have hB := HB.out.2.next hG
      have hsb := hB.sb
      have hcb := hB.cb
      have hc1 := (hcb.far (p := ⟨sb, 1, none⟩) HE.out.2.2 (vi 20)).far (p := ⟨sb, 2, none⟩) HE.out.2.2 (vi 20)
      have s1 := hsb.at 1 rfl
      have s2 := hsb.at 2 rfl
      have f1 := hsb.free 1
      have f2 := hsb.free 2
      have y0 := hc1.at 0 rfl
      have y1 := hc1.at 1 rfl
      have f3 := hc1.free 0
      have f4 := hc1.free 1
      have HX := Lib.hid (And.intro (newer_trans HB.out.1 hG) (And.intro hsb hc1))
      clear hG hR hB hsb hcb hc1 HB z0
      go_upto_region 12 with fail
      refine genQ (fun X => newer v0 X ∧ NmB sb bb 20 20 sureCs X) ⟨(((HX.out.1.setCell (p := ⟨sb, 1, none⟩) HE.out.2.1 _).setCell (p := ⟨sb, 2, none⟩) HE.out.2.1 _).setCell (p := ⟨bb, 0, none⟩) HE.out.1 _).setCell (p := ⟨bb, 1, none⟩) HE.out.1 _, (((HX.out.2.1.set 1 _).set 2 _).far (p := ⟨bb, 0, none⟩) (Ne.symm HE.out.2.2) _).far (p := ⟨bb, 1, none⟩) (Ne.symm HE.out.2.2) _, (HX.out.2.2.set 0 _).set 1 _⟩ ?_
      clear HX s1 s2 f1 f2 y0 y1 f3 f4
      rintro wx ⟨hn, hB⟩
      replace HN := Lib.hid (HN.out.next hn)
      have HB := Lib.hid hB
      clear hn hB HE
      go_wp2_with fail
      refine (span_any _ _ _).mono ?_
      rintro e k1 ⟨rfl, hbk⟩
      go_upto_region 13 with fail
      refine genQ (fun X => NmA w 500 X ∧ NmB sb bb 20 20 sureCs X ∧ Row dayL 3 X X.heap.size (some ⟨k1.heap.size, 0, none⟩) warmD) ⟨HN.out.next (newer_trans hbk (newer_allocH _ _)), HB.out.next (newer_trans hbk (newer_allocH _ _)), row_of_whole (enc := dayL) (s := 3) (fun _ => rfl) (Whole.made k1 101 _) rfl⟩ ?_
      obtain ⟨db, hdb⟩ : ∃ db, db = k1.heap.size := ⟨_, rfl⟩
      rw [← hdb]
      clear hdb hbk HB HN
      rintro wv ⟨hn, hB, hD⟩
      have HN := Lib.hid hn
      have HB := Lib.hid hB
      have HD := Lib.hid hD
      clear hn hB hD
      have z0 := HB.out.sb.at 0 (v := .slice (some ⟨bb, 0, none⟩) 2 2) rfl
      have z1 := HB.out.sb.at 1 (v := vi 20) rfl
      have z2 := HB.out.sb.at 2 (v := vi 20) rfl
      have z3 := HB.out.sb.at 3 (v := vi 500) rfl
      have z4 := HB.out.sb.at 4 (v := vi 600) rfl
      have z5 := HB.out.sb.at 5 (v := vi 4) rfl
      refine wp_words (by kernel_rfl) (region_late 11 10 (by kernel_rfl) (by kernel_rfl) (by decide) (by kernel_rfl) (fun W => Below wv.heap.size wv W) (pickB [vIs (.agg #[.slice (some ⟨bb, 0, none⟩) 2 2, vi 20, vi 20, vi 500, vi 600, vi 4]), vIs (.slice (some ⟨db, 0, none⟩) 1 1), vIs (.agg #[vi 106, vi 106]), vIs (.agg #[vi 0, vi 0, vi 106, vi 106]), vRg [⟨0, 0, 106, 106⟩], vIs (.tuple #[.agg #[vi 534, vi 566], vi 0]), vIs (.tuple #[.agg #[vi 534, vi 566], vi 0]), vIs (.agg #[vi 534, vi 566]), vIs (vi 0), vNew wv.heap.size 36 #[vi 0, vi 0], (fun _ _ => True)] [(fun _ _ => True), (fun _ _ => True), (fun _ _ => True), (fun _ _ => True), (fun _ _ => True), (fun _ _ => True), vIs (.tuple #[.agg #[vi 534, vi 566], vi 0]), (fun _ _ => True), vIs (vi 0), vNew wv.heap.size 36 #[vi 534, vi 566], (fun _ _ => True)]) (pickB_stable ⟨vIs_st, vIs_st, vIs_st, vIs_st, vRg_st, vIs_st, vIs_st, vIs_st, vIs_st, vNew_st, (fun _ _ _ h _ => h), trivial⟩ ⟨(fun _ _ _ h _ => h), (fun _ _ _ h _ => h), (fun _ _ _ h _ => h), (fun _ _ _ h _ => h), (fun _ _ _ h _ => h), (fun _ _ _ h _ => h), vIs_st, (fun _ _ _ h _ => h), vIs_st, vNew_st, (fun _ _ _ h _ => h), trivial⟩) (Below.refl _ wv).drew ?_ ?_)
      · refine ⟨?_, ?_, ?_, ?_, ?_, ?_, ?_, ?_, ?_, ?_, ?_, trivial⟩
        · intro a W hG hO hp
          have h18 := hO.slot 18 (by kernel_rfl)
          have c0 := keep_cell z0 hG
          have c1 := keep_cell z1 hG
          have c2 := keep_cell z2 hG
          have c3 := keep_cell z3 hG
          have c4 := keep_cell z4 hG
          have c5 := keep_cell z5 hG
          refine wp_yields (v := .agg #[.slice (some ⟨bb, 0, none⟩) 2 2, vi 20, vi 20, vi 500, vi 600, vi 4]) ?_ ⟨_, rfl, rfl, Below.refl _ _, hG⟩
          simp [slotOf] at h18
          simp [execOp, go_sem, h18, c0, c1, c2, c3, c4, c5]
        · intro a W hG hO hp
          have h19 := hO.slot 19 (by kernel_rfl)
          refine wp_yields (v := .slice (some ⟨db, 0, none⟩) 1 1) ?_ ⟨_, rfl, rfl, Below.refl _ _, hG⟩
          simp [slotOf] at h19
          simp [execOp, go_sem, h19]
        · intro a W hG hO hp
          refine wp_enters (f := 50) (args := #[.int .i64 106, .int .i64 106]) ?_ ((span_any 106 106 W).mono ?_)
          · skip
            simp [go_sem]
          · rintro e w' ⟨rfl, hb⟩
            exact ⟨_, rfl, _, rfl, rfl, hb, below_next hG hb⟩
        · intro a W hG hO hp
          have h161 : slotOf a 161 = .agg #[vi 106, vi 106] := hp.1
          refine wp_yields (v := .agg #[vi 0, vi 0, vi 106, vi 106]) ?_ ⟨_, rfl, rfl, Below.refl _ _, hG⟩
          simp [slotOf] at h161
          simp [execOp, go_sem, h161]
        · intro a W hG hO hp
          have h162 : slotOf a 162 = .agg #[vi 0, vi 0, vi 106, vi 106] := hp.1
          refine wp_makes (v := .slice (some ⟨W.heap.size, 0, none⟩) 1 1) (W' := W.alloc (.cells #[vi 0, vi 0, vi 106, vi 106] 103)) ?_ ⟨_, rfl, ⟨_, _, rfl, row_of_whole (enc := rdgL) (s := 4) (fun _ => rfl) (Whole.made W 103 _) rfl⟩, (Below.refl _ _).alloc (Nat.le_refl _) _, hG.alloc hG.size _⟩
          simp [slotOf] at h162
          simp [execOp, go_sem, h162]
        · intro a W hG hO hp
          have h159 : slotOf a 159 = .agg #[.slice (some ⟨bb, 0, none⟩) 2 2, vi 20, vi 20, vi 500, vi 600, vi 4] := hp.1
          have h160 : slotOf a 160 = .slice (some ⟨db, 0, none⟩) 1 1 := hp.2.1
          have h163 := hp.2.2.1
          obtain ⟨Ar, cr, h163, hrr⟩ := h163
          refine wp_enters (f := 42) (args := #[.agg #[.slice (some ⟨bb, 0, none⟩) 2 2, vi 20, vi 20, vi 500, vi 600, vi 4], .slice (some ⟨db, 0, none⟩) 1 1, .slice Ar ([⟨0, 0, 106, 106⟩] : List Rdg).length cr]) ?_ ((learn_yes sureG (some ⟨bb, 0, none⟩) 2 warmD (some ⟨db, 0, none⟩) 1 [⟨0, 0, 106, 106⟩] Ar cr W (HB.out.next hG).sure ((HD.out.below hG).more hG.size) hrr ln_106).mono ?_)
          · simp [slotOf] at h159 h160 h163
            simp [go_sem, h159, h160, h163]
          · rintro e w' ⟨⟨vx, rfl, hv⟩, hb⟩
            exact ⟨_, rfl, _, rfl, learnt_106 hv, hb, below_next hG hb⟩
        · intro a W hG hO hp
          have h164 : slotOf a 164 = .tuple #[.agg #[vi 534, vi 566], vi 0] := hp.1
          refine wp_yields (v := .tuple #[.agg #[vi 534, vi 566], vi 0]) ?_ ⟨_, rfl, rfl, Below.refl _ _, hG⟩
          simp [slotOf] at h164
          simp [execOp, go_sem, h164]
        · intro a W hG hO hp
          have h158 : slotOf a 158 = .tuple #[.agg #[vi 534, vi 566], vi 0] := hp.1
          refine wp_yields (v := .agg #[vi 534, vi 566]) ?_ ⟨_, rfl, rfl, Below.refl _ _, hG⟩
          simp [slotOf] at h158
          simp [execOp, go_sem, h158]
        · intro b a W hG hO hp
          have h158 : slotOf a 158 = .tuple #[.agg #[vi 534, vi 566], vi 0] := by cases b <;> exact hp.1
          refine wp_yields (v := vi 0) ?_ ⟨_, rfl, (by cases b <;> rfl), Below.refl _ _, hG⟩
          simp [slotOf] at h158
          simp [execOp, go_sem, h158]
        · intro a W hG hO hp
          refine wp_makes (v := .pointer (some ⟨W.heap.size, 0, none⟩)) (W' := W.alloc (.cells #[vi 0, vi 0] 36)) ?_ ⟨_, rfl, ⟨_, rfl, hG.size, Whole.made _ _ _⟩, (Below.refl _ _).alloc (Nat.le_refl _) _, hG.alloc hG.size _⟩
          skip
          simp [execOp, go_sem]
        · intro a W hG hO hp
          have h20 := hp.1
          have h165 : slotOf a 165 = .agg #[vi 534, vi 566] := hp.2.1
          obtain ⟨fb, h20, hfb, hwf⟩ := h20
          have b0 := hwf.at 0 rfl
          have b1 := hwf.at 1 rfl
          have f0 := hwf.free 0
          have f1 := hwf.free 1
          have hq := h20
          simp [slotOf] at h20 h165
          refine wp_storesE (W' := (W.setCell ⟨fb, 0, none⟩ (vi 534)).setCell ⟨fb, 1, none⟩ (vi 566)) (by simp [execOp, go_sem, h20, h165, b0, b1, f0, f1]) ⟨rfl, (hG.setCell (p := ⟨fb, 0, none⟩) hfb _).setCell (p := ⟨fb, 1, none⟩) hfb _, ?_⟩
          intro j oj d hj hoj hd hD
          match j, hoj, hD with
          | 0, _, _ => trivial
          | 1, _, _ => trivial
          | 2, _, _ => trivial
          | 3, _, _ => trivial
          | 4, _, _ => trivial
          | 5, _, _ => trivial
          | 6, _, hD =>
            exact hD
          | 7, _, _ => trivial
          | 8, _, hD =>
            exact hD
          | 9, hoj, _ =>
            obtain rfl := Option.some.inj hoj
            obtain rfl := Option.some.inj hd
            exact ⟨fb, hq, hfb, (hwf.set 0 _).set 1 _⟩
          | 10, _, _ => trivial
          | (_ + 11), _, _ => omega
      · intro W hG
        rintro _ - _ - _ - _ - _ - _ - _ - _ - _ rfl _ ⟨fb, rfl, hfb, hwf⟩
        change wpList _ _ _ _ _ _
        simp only [Act.put, List.setIfInBounds_toArray, List.set_cons_zero, List.set_cons_succ, List.drop_succ_cons, List.drop_zero]
        have HX := Lib.hid hwf
        have HXB : Hid (w.heap.size + 1 + 1 ≠ fb) := Lib.hid (by have := HN.out.tb.lt; omega)
        replace HN := Lib.hid (HN.out.next hG)
        replace HB := Lib.hid (HB.out.next hG)
        replace HD := Lib.hid ((HD.out.below hG).more hG.size)
        clear hG hwf hfb z0 z1 z2 z3 z4 z5
        obtain ⟨xb, rfl⟩ : ∃ xb, xb = fb := ⟨_, rfl⟩
        go_upto_region 14 with fail
        refine genQ (fun X => NmA w 500 X ∧ NmB sb bb 20 20 sureCs X ∧ Row dayL 3 X X.heap.size (some ⟨db, 0, none⟩) warmD ∧ Whole X xb 36 #[vi 534, vi 566]) ⟨HN.out, HB.out, HD.out, HX.out⟩ ?_
        clear HN HB HD HX
        rintro wv ⟨hn, hB, hD, hx⟩
        have HN := Lib.hid hn
        have HB := Lib.hid hB
        have HD := Lib.hid hD
        have HX := Lib.hid hx
        clear hn hB hD hx
        have z0 := HB.out.sb.at 0 (v := .slice (some ⟨bb, 0, none⟩) 2 2) rfl
        have z1 := HB.out.sb.at 1 (v := vi 20) rfl
        have z2 := HB.out.sb.at 2 (v := vi 20) rfl
        have z3 := HB.out.sb.at 3 (v := vi 500) rfl
        have z4 := HB.out.sb.at 4 (v := vi 600) rfl
        have z5 := HB.out.sb.at 5 (v := vi 4) rfl
        refine wp_words (by kernel_rfl) (region_late 11 10 (by kernel_rfl) (by kernel_rfl) (by decide) (by kernel_rfl) (fun W => Below wv.heap.size wv W) (pickB [vIs (.agg #[.slice (some ⟨bb, 0, none⟩) 2 2, vi 20, vi 20, vi 500, vi 600, vi 4]), vIs (.slice (some ⟨db, 0, none⟩) 1 1), vIs (.agg #[vi 109, vi 120]), vIs (.agg #[vi 0, vi 0, vi 109, vi 120]), vRg [⟨0, 0, 109, 120⟩], vIs (.tuple #[.agg #[vi 0, vi 0], vi 7]), vIs (.tuple #[.agg #[vi 0, vi 0], vi 7]), vIs (.agg #[vi 0, vi 0]), vIs (vi 7), vNew wv.heap.size 36 #[vi 0, vi 0], (fun _ _ => True)] [(fun _ _ => True), (fun _ _ => True), (fun _ _ => True), (fun _ _ => True), (fun _ _ => True), (fun _ _ => True), vIs (.tuple #[.agg #[vi 0, vi 0], vi 7]), (fun _ _ => True), vIs (vi 7), vNew wv.heap.size 36 #[vi 0, vi 0], (fun _ _ => True)]) (pickB_stable ⟨vIs_st, vIs_st, vIs_st, vIs_st, vRg_st, vIs_st, vIs_st, vIs_st, vIs_st, vNew_st, (fun _ _ _ h _ => h), trivial⟩ ⟨(fun _ _ _ h _ => h), (fun _ _ _ h _ => h), (fun _ _ _ h _ => h), (fun _ _ _ h _ => h), (fun _ _ _ h _ => h), (fun _ _ _ h _ => h), vIs_st, (fun _ _ _ h _ => h), vIs_st, vNew_st, (fun _ _ _ h _ => h), trivial⟩) (Below.refl _ wv).drew ?_ ?_)
        · refine ⟨?_, ?_, ?_, ?_, ?_, ?_, ?_, ?_, ?_, ?_, ?_, trivial⟩
          · intro a W hG hO hp
            have h18 := hO.slot 18 (by kernel_rfl)
            have c0 := keep_cell z0 hG
            have c1 := keep_cell z1 hG
            have c2 := keep_cell z2 hG
            have c3 := keep_cell z3 hG
            have c4 := keep_cell z4 hG
            have c5 := keep_cell z5 hG
            refine wp_yields (v := .agg #[.slice (some ⟨bb, 0, none⟩) 2 2, vi 20, vi 20, vi 500, vi 600, vi 4]) ?_ ⟨_, rfl, rfl, Below.refl _ _, hG⟩
            simp [slotOf] at h18
            simp [execOp, go_sem, h18, c0, c1, c2, c3, c4, c5]
          · intro a W hG hO hp
            have h19 := hO.slot 19 (by kernel_rfl)
            refine wp_yields (v := .slice (some ⟨db, 0, none⟩) 1 1) ?_ ⟨_, rfl, rfl, Below.refl _ _, hG⟩
            simp [slotOf] at h19
            simp [execOp, go_sem, h19]
          · intro a W hG hO hp
            refine wp_enters (f := 50) (args := #[.int .i64 109, .int .i64 120]) ?_ ((span_any 109 120 W).mono ?_)
            · skip
              simp [go_sem]
            · rintro e w' ⟨rfl, hb⟩
              exact ⟨_, rfl, _, rfl, rfl, hb, below_next hG hb⟩
          · intro a W hG hO hp
            have h170 : slotOf a 170 = .agg #[vi 109, vi 120] := hp.1
            refine wp_yields (v := .agg #[vi 0, vi 0, vi 109, vi 120]) ?_ ⟨_, rfl, rfl, Below.refl _ _, hG⟩
            simp [slotOf] at h170
            simp [execOp, go_sem, h170]
          · intro a W hG hO hp
            have h171 : slotOf a 171 = .agg #[vi 0, vi 0, vi 109, vi 120] := hp.1
            refine wp_makes (v := .slice (some ⟨W.heap.size, 0, none⟩) 1 1) (W' := W.alloc (.cells #[vi 0, vi 0, vi 109, vi 120] 103)) ?_ ⟨_, rfl, ⟨_, _, rfl, row_of_whole (enc := rdgL) (s := 4) (fun _ => rfl) (Whole.made W 103 _) rfl⟩, (Below.refl _ _).alloc (Nat.le_refl _) _, hG.alloc hG.size _⟩
            simp [slotOf] at h171
            simp [execOp, go_sem, h171]
          · intro a W hG hO hp
            have h168 : slotOf a 168 = .agg #[.slice (some ⟨bb, 0, none⟩) 2 2, vi 20, vi 20, vi 500, vi 600, vi 4] := hp.1
            have h169 : slotOf a 169 = .slice (some ⟨db, 0, none⟩) 1 1 := hp.2.1
            have h172 := hp.2.2.1
            obtain ⟨Ar, cr, h172, hrr⟩ := h172
            refine wp_enters (f := 42) (args := #[.agg #[.slice (some ⟨bb, 0, none⟩) 2 2, vi 20, vi 20, vi 500, vi 600, vi 4], .slice (some ⟨db, 0, none⟩) 1 1, .slice Ar ([⟨0, 0, 109, 120⟩] : List Rdg).length cr]) ?_ ((learn_yes sureG (some ⟨bb, 0, none⟩) 2 warmD (some ⟨db, 0, none⟩) 1 [⟨0, 0, 109, 120⟩] Ar cr W (HB.out.next hG).sure ((HD.out.below hG).more hG.size) hrr ln_109).mono ?_)
            · simp [slotOf] at h168 h169 h172
              simp [go_sem, h168, h169, h172]
            · rintro e w' ⟨⟨vx, rfl, hv⟩, hb⟩
              exact ⟨_, rfl, _, rfl, learnt_109 hv, hb, below_next hG hb⟩
          · intro a W hG hO hp
            have h173 : slotOf a 173 = .tuple #[.agg #[vi 0, vi 0], vi 7] := hp.1
            refine wp_yields (v := .tuple #[.agg #[vi 0, vi 0], vi 7]) ?_ ⟨_, rfl, rfl, Below.refl _ _, hG⟩
            simp [slotOf] at h173
            simp [execOp, go_sem, h173]
          · intro a W hG hO hp
            have h167 : slotOf a 167 = .tuple #[.agg #[vi 0, vi 0], vi 7] := hp.1
            refine wp_yields (v := .agg #[vi 0, vi 0]) ?_ ⟨_, rfl, rfl, Below.refl _ _, hG⟩
            simp [slotOf] at h167
            simp [execOp, go_sem, h167]
          · intro b a W hG hO hp
            have h167 : slotOf a 167 = .tuple #[.agg #[vi 0, vi 0], vi 7] := by cases b <;> exact hp.1
            refine wp_yields (v := vi 7) ?_ ⟨_, rfl, (by cases b <;> rfl), Below.refl _ _, hG⟩
            simp [slotOf] at h167
            simp [execOp, go_sem, h167]
          · intro a W hG hO hp
            refine wp_makes (v := .pointer (some ⟨W.heap.size, 0, none⟩)) (W' := W.alloc (.cells #[vi 0, vi 0] 36)) ?_ ⟨_, rfl, ⟨_, rfl, hG.size, Whole.made _ _ _⟩, (Below.refl _ _).alloc (Nat.le_refl _) _, hG.alloc hG.size _⟩
            skip
            simp [execOp, go_sem]
          · intro a W hG hO hp
            have h22 := hp.1
            have h174 : slotOf a 174 = .agg #[vi 0, vi 0] := hp.2.1
            obtain ⟨fb, h22, hfb, hwf⟩ := h22
            have b0 := hwf.at 0 rfl
            have b1 := hwf.at 1 rfl
            have f0 := hwf.free 0
            have f1 := hwf.free 1
            have hq := h22
            simp [slotOf] at h22 h174
            refine wp_storesE (W' := (W.setCell ⟨fb, 0, none⟩ (vi 0)).setCell ⟨fb, 1, none⟩ (vi 0)) (by simp [execOp, go_sem, h22, h174, b0, b1, f0, f1]) ⟨rfl, (hG.setCell (p := ⟨fb, 0, none⟩) hfb _).setCell (p := ⟨fb, 1, none⟩) hfb _, ?_⟩
            intro j oj d hj hoj hd hD
            match j, hoj, hD with
            | 0, _, _ => trivial
            | 1, _, _ => trivial
            | 2, _, _ => trivial
            | 3, _, _ => trivial
            | 4, _, _ => trivial
            | 5, _, _ => trivial
            | 6, _, hD =>
              exact hD
            | 7, _, _ => trivial
            | 8, _, hD =>
              exact hD
            | 9, hoj, _ =>
              obtain rfl := Option.some.inj hoj
              obtain rfl := Option.some.inj hd
              exact ⟨fb, hq, hfb, (hwf.set 0 _).set 1 _⟩
            | 10, _, _ => trivial
            | (_ + 11), _, _ => omega
        · intro W hG
          rintro _ - _ - _ - _ - _ - _ - _ - _ - _ rfl _ ⟨fb, rfl, hfb, hwf⟩
          change wpList _ _ _ _ _ _
          simp only [Act.put, List.setIfInBounds_toArray, List.set_cons_zero, List.set_cons_succ, List.drop_succ_cons, List.drop_zero]
          replace HX := Lib.hid (HX.out.below hG HX.out.lt)
          replace HN := Lib.hid (HN.out.next hG)
          replace HB := Lib.hid (HB.out.next hG)
          replace HD := Lib.hid ((HD.out.below hG).more hG.size)
          clear hG hwf hfb z0 z1 z2 z3 z4 z5
          go_upto_region 15 with fail
          refine genQ (fun X => NmA w 500 X ∧ NmB sb bb 20 20 sureCs X ∧ Row dayL 3 X X.heap.size (some ⟨db, 0, none⟩) warmD ∧ Whole X xb 36 #[vi 534, vi 566]) ⟨HN.out, HB.out, HD.out, HX.out⟩ ?_
          clear HN HB HD HX
          rintro wv ⟨hn, hB, hD, hx⟩
          have HN := Lib.hid hn
          have HB := Lib.hid hB
          have HD := Lib.hid hD
          have HX := Lib.hid hx
          clear hn hB hD hx
          have HL := Lib.hid (learn_no sureG (some ⟨bb, 0, none⟩) 2 warmD (some ⟨db, 0, none⟩) 1 [⟨0, 1, 0, 0⟩] (some ⟨wv.heap.size, 0, none⟩) 1 (wv.alloc (.cells #[vi 0, vi 1, vi 0, vi 0] 103)) (by decide) (by decide) (by decide) (HB.out.next (newer_allocH _ _)).sure (row_alloc HD.out _) (row_of_whole (enc := rdgL) (s := 4) (fun _ => rfl) (Whole.made wv 103 _) rfl) 2 ln_day.symm (by decide))
          have z0 := HB.out.sb.at 0 (v := .slice (some ⟨bb, 0, none⟩) 2 2) rfl
          have z1 := HB.out.sb.at 1 (v := vi 20) rfl
          have z2 := HB.out.sb.at 2 (v := vi 20) rfl
          have z3 := HB.out.sb.at 3 (v := vi 500) rfl
          have z4 := HB.out.sb.at 4 (v := vi 600) rfl
          have z5 := HB.out.sb.at 5 (v := vi 4) rfl
          go_wp2_with fail
          refine (HL.out).mono ?_
          rintro e k2 ⟨rfl, hb2⟩
          clear z0 z1 z2 z3 z4 z5 HL
          go_upto_region 16 with fail
          have hnn := newer_trans (newer_trans (newer_allocH wv (.cells #[vi 0, vi 1, vi 0, vi 0] 103)) hb2) (newer_allocH k2 (.cells #[vi 0, vi 0] 36))
          refine genQ (fun X => NmA w 500 X ∧ NmB sb bb 20 20 sureCs X ∧ Row dayL 3 X X.heap.size (some ⟨db, 0, none⟩) warmD ∧ Whole X xb 36 #[vi 534, vi 566]) ⟨HN.out.next hnn, HB.out.next hnn, (HD.out.below hnn).more hnn.size, HX.out.below hnn HX.out.lt⟩ ?_
          clear hnn hb2
          clear HN HB HD HX
          rintro wv ⟨hn, hB, hD, hx⟩
          have HN := Lib.hid hn
          have HB := Lib.hid hB
          have HD := Lib.hid hD
          have HX := Lib.hid hx
          clear hn hB hD hx
          have z0 := HB.out.sb.at 0 (v := .slice (some ⟨bb, 0, none⟩) 2 2) rfl
          have z1 := HB.out.sb.at 1 (v := vi 20) rfl
          have z2 := HB.out.sb.at 2 (v := vi 20) rfl
          have z3 := HB.out.sb.at 3 (v := vi 500) rfl
          have z4 := HB.out.sb.at 4 (v := vi 600) rfl
          have z5 := HB.out.sb.at 5 (v := vi 4) rfl
          refine wp_words (by kernel_rfl) (region_late 9 8 (by kernel_rfl) (by kernel_rfl) (by decide) (by kernel_rfl) (fun W => Below wv.heap.size wv W) (pickB [vIs (.agg #[.slice (some ⟨bb, 0, none⟩) 2 2, vi 20, vi 20, vi 500, vi 600, vi 4]), vIs (.slice (some ⟨db, 0, none⟩) 1 1), vRg (List.replicate 31 ⟨0, 0, 0, 0⟩), vIs (.tuple #[.agg #[vi 0, vi 0], vi 3]), vIs (.tuple #[.agg #[vi 0, vi 0], vi 3]), vIs (.agg #[vi 0, vi 0]), vIs (vi 3), vNew wv.heap.size 36 #[vi 0, vi 0], (fun _ _ => True)] [(fun _ _ => True), (fun _ _ => True), (fun _ _ => True), (fun _ _ => True), vIs (.tuple #[.agg #[vi 0, vi 0], vi 3]), (fun _ _ => True), vIs (vi 3), (fun _ _ => True), (fun _ _ => True)]) (pickB_stable ⟨vIs_st, vIs_st, vRg_st, vIs_st, vIs_st, vIs_st, vIs_st, vNew_st, (fun _ _ _ h _ => h), trivial⟩ ⟨(fun _ _ _ h _ => h), (fun _ _ _ h _ => h), (fun _ _ _ h _ => h), (fun _ _ _ h _ => h), vIs_st, (fun _ _ _ h _ => h), vIs_st, (fun _ _ _ h _ => h), (fun _ _ _ h _ => h), trivial⟩) (Below.refl _ wv).drew ?_ ?_)
          · refine ⟨?_, ?_, ?_, ?_, ?_, ?_, ?_, ?_, ?_, trivial⟩
            · intro a W hG hO hp
              have h18 := hO.slot 18 (by kernel_rfl)
              have c0 := keep_cell z0 hG
              have c1 := keep_cell z1 hG
              have c2 := keep_cell z2 hG
              have c3 := keep_cell z3 hG
              have c4 := keep_cell z4 hG
              have c5 := keep_cell z5 hG
              refine wp_yields (v := .agg #[.slice (some ⟨bb, 0, none⟩) 2 2, vi 20, vi 20, vi 500, vi 600, vi 4]) ?_ ⟨_, rfl, rfl, Below.refl _ _, hG⟩
              simp [slotOf] at h18
              simp [execOp, go_sem, h18, c0, c1, c2, c3, c4, c5]
            · intro a W hG hO hp
              have h19 := hO.slot 19 (by kernel_rfl)
              refine wp_yields (v := .slice (some ⟨db, 0, none⟩) 1 1) ?_ ⟨_, rfl, rfl, Below.refl _ _, hG⟩
              simp [slotOf] at h19
              simp [execOp, go_sem, h19]
            · intro a W hG hO hp
              refine wp_makes (v := .slice (some ⟨W.heap.size, 0, none⟩) 31 31) (W' := W.alloc (.cells (Array.replicate 124 (vi 0)) 103)) ?_ ⟨_, rfl, ⟨_, _, rfl, row_of_whole (enc := rdgL) (s := 4) (fun _ => rfl) (Whole.made W 103 _) (by kernel_rfl)⟩, (Below.refl _ _).alloc (Nat.le_refl _) _, hG.alloc hG.size _⟩
              simp [execOp, go_sem, make_rdgs]
            · intro a W hG hO hp
              have h185 : slotOf a 185 = .agg #[.slice (some ⟨bb, 0, none⟩) 2 2, vi 20, vi 20, vi 500, vi 600, vi 4] := hp.1
              have h186 : slotOf a 186 = .slice (some ⟨db, 0, none⟩) 1 1 := hp.2.1
              have h187 := hp.2.2.1
              obtain ⟨Ar, cr, h187, hrr⟩ := h187
              refine wp_enters (f := 42) (args := #[.agg #[.slice (some ⟨bb, 0, none⟩) 2 2, vi 20, vi 20, vi 500, vi 600, vi 4], .slice (some ⟨db, 0, none⟩) 1 1, .slice Ar ((List.replicate 31 ⟨0, 0, 0, 0⟩) : List Rdg).length cr]) ?_ ((learn_no sureG (some ⟨bb, 0, none⟩) 2 warmD (some ⟨db, 0, none⟩) 1 (List.replicate 31 ⟨0, 0, 0, 0⟩) Ar cr W (by decide) (by decide) (by decide) (HB.out.next hG).sure ((HD.out.below hG).more hG.size) hrr 3 ln_many.symm (by decide)).mono ?_)
              · simp [slotOf] at h185 h186 h187
                simp [go_sem, h185, h186, h187]
              · rintro e w' ⟨rfl, hb⟩
                exact ⟨_, rfl, _, rfl, rfl, hb, below_next hG hb⟩
            · intro a W hG hO hp
              have h188 : slotOf a 188 = .tuple #[.agg #[vi 0, vi 0], vi 3] := hp.1
              refine wp_yields (v := .tuple #[.agg #[vi 0, vi 0], vi 3]) ?_ ⟨_, rfl, rfl, Below.refl _ _, hG⟩
              simp [slotOf] at h188
              simp [execOp, go_sem, h188]
            · intro a W hG hO hp
              have h184 : slotOf a 184 = .tuple #[.agg #[vi 0, vi 0], vi 3] := hp.1
              refine wp_yields (v := .agg #[vi 0, vi 0]) ?_ ⟨_, rfl, rfl, Below.refl _ _, hG⟩
              simp [slotOf] at h184
              simp [execOp, go_sem, h184]
            · intro b a W hG hO hp
              have h184 : slotOf a 184 = .tuple #[.agg #[vi 0, vi 0], vi 3] := by cases b <;> exact hp.1
              refine wp_yields (v := vi 3) ?_ ⟨_, rfl, (by cases b <;> rfl), Below.refl _ _, hG⟩
              simp [slotOf] at h184
              simp [execOp, go_sem, h184]
            · intro a W hG hO hp
              refine wp_makes (v := .pointer (some ⟨W.heap.size, 0, none⟩)) (W' := W.alloc (.cells #[vi 0, vi 0] 36)) ?_ ⟨_, rfl, ⟨_, rfl, hG.size, Whole.made _ _ _⟩, (Below.refl _ _).alloc (Nat.le_refl _) _, hG.alloc hG.size _⟩
              skip
              simp [execOp, go_sem]
            · intro a W hG hO hp
              have h26 := hp.1
              have h189 : slotOf a 189 = .agg #[vi 0, vi 0] := hp.2.1
              obtain ⟨fb, h26, hfb, hwf⟩ := h26
              have b0 := hwf.at 0 rfl
              have b1 := hwf.at 1 rfl
              have f0 := hwf.free 0
              have f1 := hwf.free 1
              simp [slotOf] at h26 h189
              refine wp_storesE (W' := (W.setCell ⟨fb, 0, none⟩ (vi 0)).setCell ⟨fb, 1, none⟩ (vi 0)) (by simp [execOp, go_sem, h26, h189, b0, b1, f0, f1]) ⟨rfl, (hG.setCell (p := ⟨fb, 0, none⟩) hfb _).setCell (p := ⟨fb, 1, none⟩) hfb _, ?_⟩
              intro j oj d hj hoj hd hD
              match j, hoj, hD with
              | 0, _, _ => trivial
              | 1, _, _ => trivial
              | 2, _, _ => trivial
              | 3, _, _ => trivial
              | 4, _, hD =>
                exact hD
              | 5, _, _ => trivial
              | 6, _, hD =>
                exact hD
              | 7, _, _ => trivial
              | 8, _, _ => trivial
              | (_ + 9), _, _ => omega
          · intro W hG
            rintro _ - _ - _ - _ - _ - _ - _ rfl _ -
            change wpList _ _ _ _ _ _
            simp only [Act.put, List.setIfInBounds_toArray, List.set_cons_zero, List.set_cons_succ, List.drop_succ_cons, List.drop_zero]
            replace HX := Lib.hid (HX.out.below hG HX.out.lt)
            replace HN := Lib.hid (HN.out.next hG)
            replace HB := Lib.hid (HB.out.next hG)
            replace HD := Lib.hid ((HD.out.below hG).more hG.size)
            clear hG z0 z1 z2 z3 z4 z5
            have n1 := HN.out.tb.at 1 (v := vi 500) rfl
            have f1 := HN.out.tb.free 1
            go_upto_region 18 with fail
            refine genQ (fun X => NmA w 499 X ∧ Whole X xb 36 #[vi 534, vi 566]) ⟨HN.out.soak 499, HX.out.far (p := ⟨w.heap.size + 1 + 1, 1, none⟩) (Ne.symm HXB.out) _⟩ ?_
            clear n1 f1 HN HX HB HD HXB
            rintro wv ⟨hn, hx⟩
            have HN := Lib.hid hn
            have HX := Lib.hid hx
            clear hn hx
            have n0 := HN.out.tb.at 0 (v := vi 20) rfl
            have n1 := HN.out.tb.at 1 (v := vi 499) rfl
            have n2 := HN.out.tb.at 2 (v := .slice (some ⟨w.heap.size, 0, none⟩) 2 2) rfl
            have n3 := HN.out.tb.at 3 (v := .slice (some ⟨w.heap.size + 1, 0, none⟩) 3 3) rfl
            refine wp_words (by kernel_rfl) (region_told 12 (by kernel_rfl) (by kernel_rfl) (fun W => Below wv.heap.size wv W) newer (pickD [vGn bankG, vDy marchD, vIs (.agg #[vi 20, vi 499, .slice (some ⟨w.heap.size, 0, none⟩) 2 2, .slice (some ⟨w.heap.size + 1, 0, none⟩) 3 3]), vIs (.tuple #[.slice none 0 0, .slice none 0 0, vi 0, vi 9]), vIs (.tuple #[.slice none 0 0, .slice none 0 0, vi 0, vi 9]), vIs (.slice none 0 0), vIs (.slice none 0 0), vIs (vi 0), vIs (vi 9), vIs (.slice none 0 0), vIs (.slice none 0 0), vIs (vi 0)]) (fun h k => newer_trans h k) (pickD_stable _ ⟨vGn_st, vDy_st, vIs_st, vIs_st, vIs_st, vIs_st, vIs_st, vIs_st, vIs_st, vIs_st, vIs_st, vIs_st, trivial⟩) (Below.refl _ wv).drew (Below.refl _ _) ?_ ?_)
            · refine ⟨?_, ?_, ?_, ?_, ?_, ?_, ?_, ?_, ?_, ?_, ?_, ?_, trivial⟩
              · intro a W hG hR hO hp
                refine wp_enters (f := 48) (args := #[]) ?_ ((bank_any W).mono ?_)
                · simp [go_sem]
                · rintro e w' ⟨b, rfl, hr, hb⟩
                  exact ⟨_, rfl, _, rfl, ⟨_, _, rfl, hr⟩, hb, below_next hG hb⟩
              · intro a W hG hR hO hp
                refine wp_enters (f := 49) (args := #[]) ?_ ((march_any W).mono ?_)
                · simp [go_sem]
                · rintro e w' ⟨b, rfl, hr, hb⟩
                  exact ⟨_, rfl, _, rfl, ⟨_, _, rfl, hr⟩, hb, below_next hG hb⟩
              · intro a W hG hR hO hp
                have h1 := hO.slot 1 (by kernel_rfl)
                have c0 := keep_cell n0 hG
                have c1 := keep_cell n1 hG
                have c2 := keep_cell n2 hG
                have c3 := keep_cell n3 hG
                refine wp_yields (v := .agg #[vi 20, vi 499, .slice (some ⟨w.heap.size, 0, none⟩) 2 2, .slice (some ⟨w.heap.size + 1, 0, none⟩) 3 3]) ?_ ⟨_, rfl, rfl, Below.refl _ _, hG⟩
                simp [slotOf] at h1
                simp [execOp, go_sem, h1, c0, c1, c2, c3]
              · intro a W hG hR hO hp
                have h193 := hp.1
                have h194 := hp.2.1
                have h195 : slotOf a 195 = .agg #[vi 20, vi 499, .slice (some ⟨w.heap.size, 0, none⟩) 2 2, .slice (some ⟨w.heap.size + 1, 0, none⟩) 3 3] := hp.2.2.1
                obtain ⟨Ag, cg, h193, hrg⟩ := h193
                obtain ⟨Ad, cd, h194, hrd⟩ := h194
                refine wp_enters (f := 32) (args := #[gndV Ag cg bankG, .slice Ad marchD.length cd, .agg #[vi 20, vi 499, .slice (some ⟨w.heap.size, 0, none⟩) 2 2, .slice (some ⟨w.heap.size + 1, 0, none⟩) 3 3]]) ?_ ((run_no bankG Ag cg marchD Ad cd 20 499 lowL _ 2 lowR _ 3 W (by decide) (by decide) (by decide) (by decide) hrg hrd (HN.out.next hG).rowL (HN.out.next hG).rowR 9 low_no.symm (by decide)).mono ?_)
                · simp [slotOf] at h193 h194 h195
                  simp [go_sem, h193, h194, h195]
                · rintro e w' ⟨rfl, hb⟩
                  exact ⟨_, rfl, _, rfl, rfl, hb, below_next hG hb⟩
              · intro a W hG hR hO hp
                have h196 : slotOf a 196 = .tuple #[.slice none 0 0, .slice none 0 0, vi 0, vi 9] := hp.1
                refine wp_yields (v := .tuple #[.slice none 0 0, .slice none 0 0, vi 0, vi 9]) ?_ ⟨_, rfl, rfl, Below.refl _ _, hG⟩
                simp [slotOf] at h196
                simp [execOp, go_sem, h196]
              · intro a W hG hR hO hp
                have h192 : slotOf a 192 = .tuple #[.slice none 0 0, .slice none 0 0, vi 0, vi 9] := hp.1
                refine wp_yields (v := .slice none 0 0) ?_ ⟨_, rfl, rfl, Below.refl _ _, hG⟩
                simp [slotOf] at h192
                simp [execOp, go_sem, h192]
              · intro a W hG hR hO hp
                have h192 : slotOf a 192 = .tuple #[.slice none 0 0, .slice none 0 0, vi 0, vi 9] := hp.1
                refine wp_yields (v := .slice none 0 0) ?_ ⟨_, rfl, rfl, Below.refl _ _, hG⟩
                simp [slotOf] at h192
                simp [execOp, go_sem, h192]
              · intro a W hG hR hO hp
                have h192 : slotOf a 192 = .tuple #[.slice none 0 0, .slice none 0 0, vi 0, vi 9] := hp.1
                refine wp_yields (v := vi 0) ?_ ⟨_, rfl, rfl, Below.refl _ _, hG⟩
                simp [slotOf] at h192
                simp [execOp, go_sem, h192]
              · intro a W hG hR hO hp
                have h192 : slotOf a 192 = .tuple #[.slice none 0 0, .slice none 0 0, vi 0, vi 9] := hp.1
                refine wp_yields (v := vi 9) ?_ ⟨_, rfl, rfl, Below.refl _ _, hG⟩
                simp [slotOf] at h192
                simp [execOp, go_sem, h192]
              · intro a W hG hR hO hp
                have h197 : slotOf a 197 = .slice none 0 0 := hp.1
                refine wp_yields (v := .slice none 0 0) ?_ ⟨_, rfl, rfl, Below.refl _ _, hG⟩
                simp [slotOf] at h197
                simp [execOp, go_sem, h197]
              · intro a W hG hR hO hp
                have h198 : slotOf a 198 = .slice none 0 0 := hp.1
                refine wp_yields (v := .slice none 0 0) ?_ ⟨_, rfl, rfl, Below.refl _ _, hG⟩
                simp [slotOf] at h198
                simp [execOp, go_sem, h198]
              · intro a W hG hR hO hp
                have h199 : slotOf a 199 = vi 0 := hp.1
                refine wp_yields (v := vi 0) ?_ ⟨_, rfl, rfl, Below.refl _ _, hG⟩
                simp [slotOf] at h199
                simp [execOp, go_sem, h199]
            · intro W hG hR
              rintro _ ⟨_, _, rfl, -⟩ _ ⟨_, _, rfl, -⟩ _ rfl _ rfl _ rfl _ rfl _ rfl _ rfl _ rfl _ rfl _ rfl _ rfl
              change wpList _ _ _ _ _ _
              simp only [Act.put, List.setIfInBounds_toArray, List.set_cons_zero, List.set_cons_succ, List.drop_succ_cons, List.drop_zero]
              replace HX := Lib.hid (HX.out.below hG HX.out.lt)
              have HF := Lib.hid (HN.out.next hG).below
              clear hG hR n0 n1 n2 n3 HN
              go_wp2_with fail
              refine (bank_any _).mono ?_
              rintro e i1 ⟨bb, rfl, hr1, hb1⟩
              go_wp2_with fail
              refine (march_any _).mono ?_
              rintro e i2 ⟨db, rfl, hr2, hb2⟩
              have HL := Lib.hid (reach_no bankG (some ⟨bb, 0, none⟩) 2 marchD (some ⟨db, 0, none⟩) 3 2 0 i2 (by decide) (by decide) ((hr1.below hb2).more hb2.size) hr2 2 bank_asks.2.2.2.symm (by decide))
              have hbb := newer_trans hb1 hb2
              clear hr1 hr2 hb1 hb2
              go_wp2_with fail
              refine (HL.out).mono ?_
              rintro e i3 ⟨rfl, hb3⟩
              replace HX := Lib.hid (HX.out.below (newer_trans hbb hb3) HX.out.lt)
              replace HF := Lib.hid (below_next HF.out (newer_trans hbb hb3))
              clear hbb hb3 HL
              go_upto_region 20 with fail
              refine genQ (fun X => Below w.heap.size w X ∧ Whole X xb 36 #[vi 534, vi 566]) ⟨HF.out, HX.out⟩ ?_
              clear HF HX
              rintro wv ⟨hf, hx⟩
              have HF := Lib.hid hf
              have HX := Lib.hid hx
              clear hf hx
              refine wp_words (by kernel_rfl) (region_told 9 (by kernel_rfl) (by kernel_rfl) (fun W => Below wv.heap.size wv W) newer (pickD [vGn bankG, vDy (List.replicate 31 ⟨0, 0, 0⟩), vIs (.tuple #[.slice none 0 0, .slice none 0 0, vi 3]), vIs (.tuple #[.slice none 0 0, .slice none 0 0, vi 3]), vIs (.slice none 0 0), vIs (.slice none 0 0), vIs (vi 3), vIs (.slice none 0 0), vIs (.slice none 0 0)]) (fun h k => newer_trans h k) (pickD_stable _ ⟨vGn_st, vDy_st, vIs_st, vIs_st, vIs_st, vIs_st, vIs_st, vIs_st, vIs_st, trivial⟩) (Below.refl _ wv).drew (Below.refl _ _) ?_ ?_)
              · refine ⟨?_, ?_, ?_, ?_, ?_, ?_, ?_, ?_, ?_, trivial⟩
                · intro a W hG hR hO hp
                  refine wp_enters (f := 48) (args := #[]) ?_ ((bank_any W).mono ?_)
                  · simp [go_sem]
                  · rintro e w' ⟨b, rfl, hr, hb⟩
                    exact ⟨_, rfl, _, rfl, ⟨_, _, rfl, hr⟩, hb, below_next hG hb⟩
                · intro a W hG hR hO hp
                  refine wp_makes (v := .slice (some ⟨W.heap.size, 0, none⟩) 31 31) (W' := W.alloc (.cells (Array.replicate 93 (vi 0)) 101)) ?_ ⟨_, rfl, ⟨_, _, rfl, row_of_whole (enc := dayL) (s := 3) (fun _ => rfl) (Whole.made W 101 _) (by kernel_rfl)⟩, (Below.refl _ _).alloc (Nat.le_refl _) _, hG.alloc hG.size _⟩
                  simp [execOp, go_sem, make_days]
                · intro a W hG hR hO hp
                  have h209 := hp.1
                  have h210 := hp.2.1
                  obtain ⟨Ag, cg, h209, hrg⟩ := h209
                  obtain ⟨Ad, cd, h210, hrd⟩ := h210
                  have hlv := levels_err bankG Ag cg (List.replicate 31 ⟨0, 0, 0⟩) Ad cd W (by decide) (by decide) hrg hrd (by rw [many_fault]; decide)
                  rw [many_fault] at hlv
                  refine wp_enters (f := 18) (args := #[gndV Ag cg bankG, .slice Ad ((List.replicate 31 ⟨0, 0, 0⟩) : List Day).length cd]) ?_ (hlv.mono ?_)
                  · simp [slotOf] at h209 h210
                    simp [go_sem, h209, h210]
                  · rintro e w' ⟨rfl, hb⟩
                    exact ⟨_, rfl, _, rfl, rfl, hb, below_next hG hb⟩
                · intro a W hG hR hO hp
                  have h211 : slotOf a 211 = .tuple #[.slice none 0 0, .slice none 0 0, vi 3] := hp.1
                  refine wp_yields (v := .tuple #[.slice none 0 0, .slice none 0 0, vi 3]) ?_ ⟨_, rfl, rfl, Below.refl _ _, hG⟩
                  simp [slotOf] at h211
                  simp [execOp, go_sem, h211]
                · intro a W hG hR hO hp
                  have h208 : slotOf a 208 = .tuple #[.slice none 0 0, .slice none 0 0, vi 3] := hp.1
                  refine wp_yields (v := .slice none 0 0) ?_ ⟨_, rfl, rfl, Below.refl _ _, hG⟩
                  simp [slotOf] at h208
                  simp [execOp, go_sem, h208]
                · intro a W hG hR hO hp
                  have h208 : slotOf a 208 = .tuple #[.slice none 0 0, .slice none 0 0, vi 3] := hp.1
                  refine wp_yields (v := .slice none 0 0) ?_ ⟨_, rfl, rfl, Below.refl _ _, hG⟩
                  simp [slotOf] at h208
                  simp [execOp, go_sem, h208]
                · intro a W hG hR hO hp
                  have h208 : slotOf a 208 = .tuple #[.slice none 0 0, .slice none 0 0, vi 3] := hp.1
                  refine wp_yields (v := vi 3) ?_ ⟨_, rfl, rfl, Below.refl _ _, hG⟩
                  simp [slotOf] at h208
                  simp [execOp, go_sem, h208]
                · intro a W hG hR hO hp
                  have h212 : slotOf a 212 = .slice none 0 0 := hp.1
                  refine wp_yields (v := .slice none 0 0) ?_ ⟨_, rfl, rfl, Below.refl _ _, hG⟩
                  simp [slotOf] at h212
                  simp [execOp, go_sem, h212]
                · intro a W hG hR hO hp
                  have h213 : slotOf a 213 = .slice none 0 0 := hp.1
                  refine wp_yields (v := .slice none 0 0) ?_ ⟨_, rfl, rfl, Below.refl _ _, hG⟩
                  simp [slotOf] at h213
                  simp [execOp, go_sem, h213]
              · intro W hG hR
                rintro _ ⟨_, _, rfl, -⟩ _ ⟨_, _, rfl, -⟩ _ rfl _ rfl _ rfl _ rfl _ rfl _ rfl _ rfl
                change wpList _ _ _ _ _ _
                simp only [Act.put, List.setIfInBounds_toArray, List.set_cons_zero, List.set_cons_succ, List.drop_succ_cons, List.drop_zero]
                replace HX := Lib.hid (HX.out.below hG HX.out.lt)
                replace HF := Lib.hid (below_next HF.out hG)
                clear hG hR
                go_upto_region 21 with fail
                refine genQ (fun X => Below w.heap.size w X ∧ Whole X xb 36 #[vi 534, vi 566]) ⟨HF.out, HX.out⟩ ?_
                clear HF HX
                rintro v1 ⟨hf, hx⟩
                have HF := Lib.hid hf
                have HX := Lib.hid hx
                clear hf hx
                go_wp2_with fail
                refine (bank_whole _).mono ?_
                rintro e h2 ⟨ob, rfl, hob, hw, hb1⟩
                rw [show gndV (some ⟨ob, 0, none⟩) 2 bankG = .agg #[.slice (some ⟨ob, 0, none⟩) 2 2, vi 20, vi 30, vi 500, vi 600, vi 4] from rfl]
                have HW := Lib.hid (And.intro hw hb1)
                clear hw hb1
                go_upto_region 22 with fail
                refine genQ (fun X => newer v1 X ∧ NmB h2.heap.size ob 20 30 bankCs X) ⟨newer_trans HW.out.2 (newer_allocH _ _), Whole.made _ _ _, HW.out.1.alloc _⟩ ?_
                obtain ⟨pb, hpb⟩ : ∃ pb, pb = h2.heap.size := ⟨_, rfl⟩
                rw [← hpb]
                have HE : Hid (v1.heap.size ≤ ob ∧ ob ≠ pb) := Lib.hid ⟨hob, by have := HW.out.1.lt; omega⟩
                clear hpb hob HW
                rintro wv ⟨hn, hB⟩
                have z0 := hB.sb.at 0 (v := .slice (some ⟨ob, 0, none⟩) 2 2) rfl
                have y0 := hB.cb.at 12 (v := vi (-1)) rfl
                have f0 := hB.cb.free 12
                have HB := Lib.hid (And.intro hn hB)
                clear hn hB
                go_upto_region 23 with fail
                refine genQ (fun X => newer v1 X ∧ NmB pb ob 20 30 oddCs X) ⟨HB.out.1.setCell (p := ⟨ob, 12, none⟩) HE.out.1 _, HB.out.2.sb.far (p := ⟨ob, 12, none⟩) (Ne.symm HE.out.2) _, HB.out.2.cb.set 12 _⟩ ?_
                clear HB z0 y0 f0 HE
                rintro wv ⟨hn, hB⟩
                have z0 := hB.sb.at 0 (v := .slice (some ⟨ob, 0, none⟩) 2 2) rfl
                have z1 := hB.sb.at 1 (v := vi 20) rfl
                have z2 := hB.sb.at 2 (v := vi 30) rfl
                have z3 := hB.sb.at 3 (v := vi 500) rfl
                have z4 := hB.sb.at 4 (v := vi 600) rfl
                have z5 := hB.sb.at 5 (v := vi 4) rfl
                have hlv := levels_err oddG (some ⟨ob, 0, none⟩) 2 [] none 0 wv (by decide) (by decide) hB.odd (Row.nil _) (by rw [odd_fault]; decide)
                rw [odd_fault] at hlv
                have HLV := Lib.hid hlv
                replace HX := Lib.hid (HX.out.below hn HX.out.lt)
                replace HF := Lib.hid (below_next HF.out hn)
                clear hn hB hlv
                go_wp2_with fail
                refine (HLV.out).mono ?_
                rintro e v2 ⟨rfl, hb2⟩
                replace HX := Lib.hid (HX.out.below hb2 HX.out.lt)
                replace HF := Lib.hid (below_next HF.out hb2)
                clear hb2 HLV z0 z1 z2 z3 z4 z5
                go_upto_region 24 with fail
                refine genQ (fun X => Below w.heap.size w X ∧ Whole X xb 36 #[vi 534, vi 566]) ⟨HF.out, HX.out⟩ ?_
                clear HF HX
                rintro wv ⟨hf, hx⟩
                have x0 := hx.at 0 (v := vi 534) rfl
                have x1 := hx.at 1 (v := vi 566) rfl
                have HF := Lib.hid hf
                clear hf hx
                refine wp_words (by kernel_rfl) (region_told_g 47 (by kernel_rfl) (by kernel_rfl) (fun W => Below wv.heap.size wv W) newer (pickD [vIs (vi 8), vIs (.bool true), vIs (.bool true), vIs (vi 0), vIs (.bool true), vIs (.bool true), vIs (.bool true), vIs (.agg #[vi 534, vi 566]), vIs (.agg #[vi 534, vi 566]), vIs (.bool true), vIs (.bool true), vIs (.bool true), vIs (vi 7), vIs (.bool true), vIs (.bool true), vIs (.bool true), vIs (vi 2), vIs (.bool true), vIs (.bool true), vIs (.bool true), vIs (vi 3), vIs (.bool true), vIs (.bool true), vIs (.bool true), vIs (vi 9), vIs (.bool true), vIs (.bool true), vIs (.bool true), vIs (vi 2), vIs (.bool true), vIs (.bool true), vIs (.bool true), vIs (vi 3), vIs (.bool true), vIs (.bool true), vIs (.bool true), vIs (vi 1), vIs (.bool true), vIs (.bool true), vIs (.bool true), vIs (.agg #[.slice none 0 0, vi 0, vi 0, vi 0, vi 0, vi 0]), vIs (vi 1), vIs (.bool true), vIs (.bool true), vIs (.bool true), vIs (.bool true), vIs (.bool true)]) ⟨trivial, trivial, trivial, (fun _ _ h => h), (fun _ _ h => h), trivial, trivial, (fun _ _ h => h), (fun _ _ h => h), (fun _ _ h => h), trivial, trivial, (fun _ _ h => h), (fun _ _ h => h), trivial, trivial, (fun _ _ h => h), (fun _ _ h => h), trivial, trivial, (fun _ _ h => h), (fun _ _ h => h), trivial, trivial, (fun _ _ h => h), (fun _ _ h => h), trivial, trivial, (fun _ _ h => h), (fun _ _ h => h), trivial, trivial, (fun _ _ h => h), (fun _ _ h => h), trivial, trivial, (fun _ _ h => h), (fun _ _ h => h), trivial, trivial, (fun _ _ h => h), (fun _ _ h => h), (fun _ _ h => h), trivial, trivial, (fun _ _ h => h), trivial, trivial⟩ (fun h k => newer_trans h k) (pickD_stable _ ⟨vIs_st, vIs_st, vIs_st, vIs_st, vIs_st, vIs_st, vIs_st, vIs_st, vIs_st, vIs_st, vIs_st, vIs_st, vIs_st, vIs_st, vIs_st, vIs_st, vIs_st, vIs_st, vIs_st, vIs_st, vIs_st, vIs_st, vIs_st, vIs_st, vIs_st, vIs_st, vIs_st, vIs_st, vIs_st, vIs_st, vIs_st, vIs_st, vIs_st, vIs_st, vIs_st, vIs_st, vIs_st, vIs_st, vIs_st, vIs_st, vIs_st, vIs_st, vIs_st, vIs_st, vIs_st, vIs_st, vIs_st, trivial⟩) (Below.refl _ wv).drew (Below.refl _ _) ?_ ?_)
                · refine ⟨?_, ?_, ?_, ?_, ?_, ?_, ?_, ?_, ?_, ?_, ?_, ?_, ?_, ?_, ?_, ?_, ?_, ?_, ?_, ?_, ?_, ?_, ?_, ?_, ?_, ?_, ?_, ?_, ?_, ?_, ?_, ?_, ?_, ?_, ?_, ?_, ?_, ?_, ?_, ?_, ?_, ?_, ?_, ?_, ?_, ?_, ?_, trivial⟩
                  · intro a W hG hR hO hp
                    have h17 := hO.slot 17 (by kernel_rfl)
                    refine wp_yields (v := vi 8) ?_ ⟨_, rfl, rfl, Below.refl _ _, hG⟩
                    simp [slotOf] at h17
                    simp [execOp, go_sem, h17]
                  · intro a W hG hR hO hp
                    have h226 : slotOf a 226 = vi 8 := hp.1
                    refine wp_yields (v := .bool true) ?_ ⟨_, rfl, rfl, Below.refl _ _, hG⟩
                    simp [slotOf] at h226
                    simp [execOp, go_sem, h226]
                  · intro a W hG hR hO hp
                    have h227 : slotOf a 227 = .bool true := hp.1
                    refine wp_yields (v := .bool true) ?_ ⟨_, rfl, rfl, Below.refl _ _, hG⟩
                    simp [slotOf] at h227
                    simp [execOp, go_sem, h227]
                  · intro a W hG hR hO hp
                    have h21 := hO.slot 21 (by kernel_rfl)
                    refine wp_yields (v := vi 0) ?_ ⟨_, rfl, rfl, Below.refl _ _, hG⟩
                    simp [slotOf] at h21
                    simp [execOp, go_sem, h21]
                  · intro a W hG hR hO hp
                    have h229 : slotOf a 229 = vi 0 := hp.1
                    refine wp_yields (v := .bool true) ?_ ⟨_, rfl, rfl, Below.refl _ _, hG⟩
                    simp [slotOf] at h229
                    simp [execOp, go_sem, h229]
                  · intro a W hG hR hO hp
                    have h228 : slotOf a 228 = .bool true := hp.1
                    have h230 : slotOf a 230 = .bool true := hp.2.1
                    refine wp_yields (v := .bool true) ?_ ⟨_, rfl, rfl, Below.refl _ _, hG⟩
                    simp [slotOf] at h228 h230
                    simp [execOp, go_sem, h228, h230]
                  · intro a W hG hR hO hp
                    have h231 : slotOf a 231 = .bool true := hp.1
                    refine wp_yields (v := .bool true) ?_ ⟨_, rfl, rfl, Below.refl _ _, hG⟩
                    simp [slotOf] at h231
                    simp [execOp, go_sem, h231]
                  · intro a W hG hR hO hp
                    have h20 := hO.slot 20 (by kernel_rfl)
                    have c0 := keep_cell x0 hG
                    have c1 := keep_cell x1 hG
                    refine wp_yields (v := .agg #[vi 534, vi 566]) ?_ ⟨_, rfl, rfl, Below.refl _ _, hG⟩
                    simp [slotOf] at h20
                    simp [execOp, go_sem, h20, c0, c1]
                  · intro a W hG hR hO hp
                    refine wp_enters (f := 50) (args := #[.int .i64 534, .int .i64 566]) ?_ ((span_any 534 566 W).mono ?_)
                    · skip
                      simp [go_sem]
                    · rintro e w' ⟨rfl, hb⟩
                      exact ⟨_, rfl, _, rfl, rfl, hb, below_next hG hb⟩
                  · intro a W hG hR hO hp
                    have h233 : slotOf a 233 = .agg #[vi 534, vi 566] := hp.1
                    have h234 : slotOf a 234 = .agg #[vi 534, vi 566] := hp.2.1
                    refine wp_yields (v := .bool true) ?_ ⟨_, rfl, rfl, Below.refl _ _, hG⟩
                    simp [slotOf] at h233 h234
                    simp [execOp, go_sem, h233, h234]
                  · intro a W hG hR hO hp
                    have h232 : slotOf a 232 = .bool true := hp.1
                    have h235 : slotOf a 235 = .bool true := hp.2.1
                    refine wp_yields (v := .bool true) ?_ ⟨_, rfl, rfl, Below.refl _ _, hG⟩
                    simp [slotOf] at h232 h235
                    simp [execOp, go_sem, h232, h235]
                  · intro a W hG hR hO hp
                    have h236 : slotOf a 236 = .bool true := hp.1
                    refine wp_yields (v := .bool true) ?_ ⟨_, rfl, rfl, Below.refl _ _, hG⟩
                    simp [slotOf] at h236
                    simp [execOp, go_sem, h236]
                  · intro a W hG hR hO hp
                    have h23 := hO.slot 23 (by kernel_rfl)
                    refine wp_yields (v := vi 7) ?_ ⟨_, rfl, rfl, Below.refl _ _, hG⟩
                    simp [slotOf] at h23
                    simp [execOp, go_sem, h23]
                  · intro a W hG hR hO hp
                    have h238 : slotOf a 238 = vi 7 := hp.1
                    refine wp_yields (v := .bool true) ?_ ⟨_, rfl, rfl, Below.refl _ _, hG⟩
                    simp [slotOf] at h238
                    simp [execOp, go_sem, h238]
                  · intro a W hG hR hO hp
                    have h237 : slotOf a 237 = .bool true := hp.1
                    have h239 : slotOf a 239 = .bool true := hp.2.1
                    refine wp_yields (v := .bool true) ?_ ⟨_, rfl, rfl, Below.refl _ _, hG⟩
                    simp [slotOf] at h237 h239
                    simp [execOp, go_sem, h237, h239]
                  · intro a W hG hR hO hp
                    have h240 : slotOf a 240 = .bool true := hp.1
                    refine wp_yields (v := .bool true) ?_ ⟨_, rfl, rfl, Below.refl _ _, hG⟩
                    simp [slotOf] at h240
                    simp [execOp, go_sem, h240]
                  · intro a W hG hR hO hp
                    have h25 := hO.slot 25 (by kernel_rfl)
                    refine wp_yields (v := vi 2) ?_ ⟨_, rfl, rfl, Below.refl _ _, hG⟩
                    simp [slotOf] at h25
                    simp [execOp, go_sem, h25]
                  · intro a W hG hR hO hp
                    have h242 : slotOf a 242 = vi 2 := hp.1
                    refine wp_yields (v := .bool true) ?_ ⟨_, rfl, rfl, Below.refl _ _, hG⟩
                    simp [slotOf] at h242
                    simp [execOp, go_sem, h242]
                  · intro a W hG hR hO hp
                    have h241 : slotOf a 241 = .bool true := hp.1
                    have h243 : slotOf a 243 = .bool true := hp.2.1
                    refine wp_yields (v := .bool true) ?_ ⟨_, rfl, rfl, Below.refl _ _, hG⟩
                    simp [slotOf] at h241 h243
                    simp [execOp, go_sem, h241, h243]
                  · intro a W hG hR hO hp
                    have h244 : slotOf a 244 = .bool true := hp.1
                    refine wp_yields (v := .bool true) ?_ ⟨_, rfl, rfl, Below.refl _ _, hG⟩
                    simp [slotOf] at h244
                    simp [execOp, go_sem, h244]
                  · intro a W hG hR hO hp
                    have h27 := hO.slot 27 (by kernel_rfl)
                    refine wp_yields (v := vi 3) ?_ ⟨_, rfl, rfl, Below.refl _ _, hG⟩
                    simp [slotOf] at h27
                    simp [execOp, go_sem, h27]
                  · intro a W hG hR hO hp
                    have h246 : slotOf a 246 = vi 3 := hp.1
                    refine wp_yields (v := .bool true) ?_ ⟨_, rfl, rfl, Below.refl _ _, hG⟩
                    simp [slotOf] at h246
                    simp [execOp, go_sem, h246]
                  · intro a W hG hR hO hp
                    have h245 : slotOf a 245 = .bool true := hp.1
                    have h247 : slotOf a 247 = .bool true := hp.2.1
                    refine wp_yields (v := .bool true) ?_ ⟨_, rfl, rfl, Below.refl _ _, hG⟩
                    simp [slotOf] at h245 h247
                    simp [execOp, go_sem, h245, h247]
                  · intro a W hG hR hO hp
                    have h248 : slotOf a 248 = .bool true := hp.1
                    refine wp_yields (v := .bool true) ?_ ⟨_, rfl, rfl, Below.refl _ _, hG⟩
                    simp [slotOf] at h248
                    simp [execOp, go_sem, h248]
                  · intro a W hG hR hO hp
                    have h31 := hO.slot 31 (by kernel_rfl)
                    refine wp_yields (v := vi 9) ?_ ⟨_, rfl, rfl, Below.refl _ _, hG⟩
                    simp [slotOf] at h31
                    simp [execOp, go_sem, h31]
                  · intro a W hG hR hO hp
                    have h250 : slotOf a 250 = vi 9 := hp.1
                    refine wp_yields (v := .bool true) ?_ ⟨_, rfl, rfl, Below.refl _ _, hG⟩
                    simp [slotOf] at h250
                    simp [execOp, go_sem, h250]
                  · intro a W hG hR hO hp
                    have h249 : slotOf a 249 = .bool true := hp.1
                    have h251 : slotOf a 251 = .bool true := hp.2.1
                    refine wp_yields (v := .bool true) ?_ ⟨_, rfl, rfl, Below.refl _ _, hG⟩
                    simp [slotOf] at h249 h251
                    simp [execOp, go_sem, h249, h251]
                  · intro a W hG hR hO hp
                    have h252 : slotOf a 252 = .bool true := hp.1
                    refine wp_yields (v := .bool true) ?_ ⟨_, rfl, rfl, Below.refl _ _, hG⟩
                    simp [slotOf] at h252
                    simp [execOp, go_sem, h252]
                  · intro a W hG hR hO hp
                    have h34 := hO.slot 34 (by kernel_rfl)
                    refine wp_yields (v := vi 2) ?_ ⟨_, rfl, rfl, Below.refl _ _, hG⟩
                    simp [slotOf] at h34
                    simp [execOp, go_sem, h34]
                  · intro a W hG hR hO hp
                    have h254 : slotOf a 254 = vi 2 := hp.1
                    refine wp_yields (v := .bool true) ?_ ⟨_, rfl, rfl, Below.refl _ _, hG⟩
                    simp [slotOf] at h254
                    simp [execOp, go_sem, h254]
                  · intro a W hG hR hO hp
                    have h253 : slotOf a 253 = .bool true := hp.1
                    have h255 : slotOf a 255 = .bool true := hp.2.1
                    refine wp_yields (v := .bool true) ?_ ⟨_, rfl, rfl, Below.refl _ _, hG⟩
                    simp [slotOf] at h253 h255
                    simp [execOp, go_sem, h253, h255]
                  · intro a W hG hR hO hp
                    have h256 : slotOf a 256 = .bool true := hp.1
                    refine wp_yields (v := .bool true) ?_ ⟨_, rfl, rfl, Below.refl _ _, hG⟩
                    simp [slotOf] at h256
                    simp [execOp, go_sem, h256]
                  · intro a W hG hR hO hp
                    have h37 := hO.slot 37 (by kernel_rfl)
                    refine wp_yields (v := vi 3) ?_ ⟨_, rfl, rfl, Below.refl _ _, hG⟩
                    simp [slotOf] at h37
                    simp [execOp, go_sem, h37]
                  · intro a W hG hR hO hp
                    have h258 : slotOf a 258 = vi 3 := hp.1
                    refine wp_yields (v := .bool true) ?_ ⟨_, rfl, rfl, Below.refl _ _, hG⟩
                    simp [slotOf] at h258
                    simp [execOp, go_sem, h258]
                  · intro a W hG hR hO hp
                    have h257 : slotOf a 257 = .bool true := hp.1
                    have h259 : slotOf a 259 = .bool true := hp.2.1
                    refine wp_yields (v := .bool true) ?_ ⟨_, rfl, rfl, Below.refl _ _, hG⟩
                    simp [slotOf] at h257 h259
                    simp [execOp, go_sem, h257, h259]
                  · intro a W hG hR hO hp
                    have h260 : slotOf a 260 = .bool true := hp.1
                    refine wp_yields (v := .bool true) ?_ ⟨_, rfl, rfl, Below.refl _ _, hG⟩
                    simp [slotOf] at h260
                    simp [execOp, go_sem, h260]
                  · intro a W hG hR hO hp
                    have h41 := hO.slot 41 (by kernel_rfl)
                    refine wp_yields (v := vi 1) ?_ ⟨_, rfl, rfl, Below.refl _ _, hG⟩
                    simp [slotOf] at h41
                    simp [execOp, go_sem, h41]
                  · intro a W hG hR hO hp
                    have h262 : slotOf a 262 = vi 1 := hp.1
                    refine wp_yields (v := .bool true) ?_ ⟨_, rfl, rfl, Below.refl _ _, hG⟩
                    simp [slotOf] at h262
                    simp [execOp, go_sem, h262]
                  · intro a W hG hR hO hp
                    have h261 : slotOf a 261 = .bool true := hp.1
                    have h263 : slotOf a 263 = .bool true := hp.2.1
                    refine wp_yields (v := .bool true) ?_ ⟨_, rfl, rfl, Below.refl _ _, hG⟩
                    simp [slotOf] at h261 h263
                    simp [execOp, go_sem, h261, h263]
                  · intro a W hG hR hO hp
                    have h264 : slotOf a 264 = .bool true := hp.1
                    refine wp_yields (v := .bool true) ?_ ⟨_, rfl, rfl, Below.refl _ _, hG⟩
                    simp [slotOf] at h264
                    simp [execOp, go_sem, h264]
                  · intro a W hG hR hO hp
                    refine wp_yields (v := .agg #[.slice none 0 0, vi 0, vi 0, vi 0, vi 0, vi 0]) ?_ ⟨_, rfl, rfl, Below.refl _ _, hG⟩
                    skip
                    simp [execOp, go_sem]
                  · intro a W hG hR hO hp
                    have h266 : slotOf a 266 = .agg #[.slice none 0 0, vi 0, vi 0, vi 0, vi 0, vi 0] := hp.1
                    have hck := checkGround_any ⟨[], 0, 0, 0, 0, 0⟩ 0 none W (by decide) (Row.nil _)
                    rw [no_ground] at hck
                    refine wp_enters (f := 31) (args := #[.agg #[.slice none 0 0, vi 0, vi 0, vi 0, vi 0, vi 0]]) ?_ (hck.mono ?_)
                    · simp [slotOf] at h266
                      simp [go_sem, h266]
                    · rintro e w' ⟨rfl, hb⟩
                      exact ⟨_, rfl, _, rfl, rfl, hb, below_next hG hb⟩
                  · intro a W hG hR hO hp
                    have h267 : slotOf a 267 = vi 1 := hp.1
                    refine wp_yields (v := .bool true) ?_ ⟨_, rfl, rfl, Below.refl _ _, hG⟩
                    simp [slotOf] at h267
                    simp [execOp, go_sem, h267]
                  · intro a W hG hR hO hp
                    have h265 : slotOf a 265 = .bool true := hp.1
                    have h268 : slotOf a 268 = .bool true := hp.2.1
                    refine wp_yields (v := .bool true) ?_ ⟨_, rfl, rfl, Below.refl _ _, hG⟩
                    simp [slotOf] at h265 h268
                    simp [execOp, go_sem, h265, h268]
                  · intro a W hG hR hO hp
                    have h269 : slotOf a 269 = .bool true := hp.1
                    refine wp_yields (v := .bool true) ?_ ⟨_, rfl, rfl, Below.refl _ _, hG⟩
                    simp [slotOf] at h269
                    simp [execOp, go_sem, h269]
                  · intro a W hG hR hO hp
                    refine wp_enters (f := 17) (args := #[]) ?_ ((wakes_any W).mono ?_)
                    · skip
                      simp [go_sem]
                    · rintro e w' ⟨rfl, hb⟩
                      exact ⟨_, rfl, _, rfl, rfl, hb, below_next hG hb⟩
                  · intro a W hG hR hO hp
                    have h270 : slotOf a 270 = .bool true := hp.1
                    have h271 : slotOf a 271 = .bool true := hp.2.1
                    refine wp_yields (v := .bool true) ?_ ⟨_, rfl, rfl, Below.refl _ _, hG⟩
                    simp [slotOf] at h270 h271
                    simp [execOp, go_sem, h270, h271]
                · intro W hG hR
                  rintro _ rfl _ rfl _ rfl _ rfl _ rfl _ rfl _ rfl _ rfl _ rfl _ rfl _ rfl _ rfl _ rfl _ rfl _ rfl _ rfl _ rfl _ rfl _ rfl _ rfl _ rfl _ rfl _ rfl _ rfl _ rfl _ rfl _ rfl _ rfl _ rfl _ rfl _ rfl _ rfl _ rfl _ rfl _ rfl _ rfl _ rfl _ rfl _ rfl _ rfl _ rfl _ rfl _ rfl _ rfl _ rfl _ rfl _ rfl
                  change wpList _ _ _ _ _ _
                  simp only [Act.put, List.setIfInBounds_toArray, List.set_cons_zero, List.set_cons_succ, List.drop_succ_cons, List.drop_zero]
                  replace HF := Lib.hid (below_next HF.out hG)
                  clear hG hR x0 x1
                  go_wp2_with fail
                  go_ret
                  exact ⟨rfl, HF.out⟩
end Go.Proofs.Yteonkhohloabfaa
