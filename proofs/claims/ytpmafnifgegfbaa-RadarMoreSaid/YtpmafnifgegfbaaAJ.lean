/- RadarProves walked: it returns true, and leaves what was there. -/
import Derived.Test.YtpmafnifgegfbaaAI
namespace Go.Proofs.Ytpmafnifgegfbaa
open Go.RowKit Go.Shelf Go.Deep

/-- A survey for the program; a field for it. -/
def vSv (s : Sd) (_ : Nat) (v : Value) (W : World) : Prop := ∃ z : Sm, v = smV z ∧ z.s = s ∧ SmOk z W
theorem vSv_st {s : Sd} {B : Nat} : ∀ v W W', vSv s B v W → newer W W' → vSv s B v W' := fun _ _ _ ⟨z, h1, h2, h3⟩ hb => ⟨z, h1, h2, h3.next hb⟩
def vFd (f : List Mv) (v : Value) (W : World) : Prop := ∃ B d, v = .slice B f.length d ∧ Row mvL 2 W W.heap.size B f
theorem vFd_st {f : List Mv} : ∀ v W W', vFd f v W → newer W W' → vFd f v W' := fun _ _ _ ⟨B, d, h1, h2⟩ hb => ⟨B, d, h1, (h2.below hb).more hb.size⟩
theorem few_s {y z : Sm} (h : z.s = y.s) (f : SmFew y) : SmFew z := ⟨by rw [h]; exact f.sp, by rw [h]; exact f.tl, by rw [h]; exact f.rd⟩
/-- What the program proves is what the reference agrees with. -/
theorem prove_is {s : Sd} {f : List Mv} (h : SdOk s) : proveB s f = agreesB s f := by
  unfold proveB agreesB
  rw [decide_eq_true (err_iff.2 h), Bool.true_and, ← isField_is]
  cases hi : isFieldB s f with
  | false => rfl
  | true =>
    rw [Bool.true_and, Bool.true_and, Bool.eq_iff_iff, waysB_iff h (isField_iff.1 hi).2, List.all_eq_true]
    have hf : ∀ j : Nat, (freeL s).getD j none = none := fun j => by
      unfold freeL
      rw [List.getD_eq_getElem?_getD, List.getElem?_replicate]
      split <;> rfl
    unfold ToolsOk
    constructor
    · intro h1 j t ht
      have h2 := h1 j (List.mem_range.2 (List.getElem?_eq_some_iff.1 ht).1)
      unfold okT at h2
      rw [ht] at h2
      rw [hf]
      exact h2
    · intro h1 j hj
      unfold okT
      cases ht : s.tools[j]? with
      | none => rfl
      | some t =>
        have h2 := h1 j t ht
        rw [hf] at h2
        exact h2
set_option maxRecDepth 100000 in
set_option maxHeartbeats 4000000 in
theorem radarProves_walk (y : Sm) (f : List Mv) (fa : Option Addr) (fc : Nat) (w : World) (hok : SmOk y w) (hf : Row mvL 2 w w.heap.size fa f) : Calls Try.prog 10 #[smV y, .slice fa f.length fc] w fun e w' => e = .returned (.bool true) ∧ newer w w' := by
  have hnw := newer_allocH w (.cells (smC y) 26)
  have hxb := Whole.made w 26 (smC y)
  have HTH := Lib.hid (lawThin y (w.alloc (.cells (smC y) 26)))
  have HN0 := Lib.hid (And.intro hnw hxb)
  have HOK := Lib.hid hok
  have HFR := Lib.hid hf
  have x0 := hxb.at 0 (v := .slice y.sa y.s.spots.length y.sc) rfl
  have x1 := hxb.at 1 (v := vi y.s.strain) rfl
  have x2 := hxb.at 2 (v := .slice y.ta y.s.tools.length y.tc) rfl
  have x3 := hxb.at 3 (v := vi y.s.day) rfl
  have x4 := hxb.at 4 (v := .slice y.ra y.s.reads.length y.rc) rfl
  clear hok hf hnw hxb
  cases ht : thinS y.s with
  | false =>
    rw [ht] at HTH
    clear ht
    go_enter Try.func10, Try.ntmps10
    go_wp2_with fail
    refine (HTH.out).mono ?_
    rintro e w1 ⟨rfl, hb1⟩
    have HN := Lib.hid (newer_trans HN0.out.1 hb1)
    clear hb1 HTH HN0 x0 x1 x2 x3 x4
    go_wp2_with fail
    refine (awake_any _).mono ?_
    rintro e wk ⟨rfl, hb⟩
    have HK := Lib.hid (newer_trans (HN.out) hb)
    clear hb
    go_wp2_with fail
    go_ret
    exact ⟨rfl, HK.out⟩
  | true =>
    have HFW := Lib.hid (thin_few ht).1
    rw [ht] at HTH
    clear ht
    by_cases hfl : f.length ≤ 10
    case neg =>
      have hfg : ((10 : Nat) : Int) < f.length := by omega
      have hfg2 : 10 < f.length := by omega
      go_enter Try.func10, Try.ntmps10
      go_wp2_with fail
      refine (HTH.out).mono ?_
      rintro e w1 ⟨rfl, hb1⟩
      have HN := Lib.hid (newer_trans HN0.out.1 hb1)
      clear hb1 HTH HN0 x0 x1 x2 x3 x4
      go_wp2_with fail
      refine (awake_any _).mono ?_
      rintro e wk ⟨rfl, hb⟩
      have HK := Lib.hid (newer_trans (HN.out) hb)
      clear hb
      go_wp2_with fail
      go_ret
      exact ⟨rfl, HK.out⟩
    case pos =>
      have hfg2 : ¬ 10 < f.length := by omega
      have HFL := Lib.hid (show f.length ≤ 1000 by omega)
      go_enter Try.func10, Try.ntmps10
      go_wp2_with fail
      refine (HTH.out).mono ?_
      rintro e wv ⟨rfl, hb1⟩
      have hn := newer_trans HN0.out.1 hb1
      have hw := HN0.out.2.below hb1 HN0.out.2.lt
      have HN := Lib.hid hn
      clear hb1 HTH HN0 x0 x1 x2 x3 x4 hn
      have x0 := hw.at 0 (v := .slice y.sa y.s.spots.length y.sc) rfl
      have x1 := hw.at 1 (v := vi y.s.strain) rfl
      have x2 := hw.at 2 (v := .slice y.ta y.s.tools.length y.tc) rfl
      have x3 := hw.at 3 (v := vi y.s.day) rfl
      have x4 := hw.at 4 (v := .slice y.ra y.s.reads.length y.rc) rfl
      by_cases he : errN y.s = 0
      case neg =>
        have HPB := Lib.hid (show proveB y.s f = false by unfold proveB; rw [decide_eq_false he, Bool.false_and, Bool.false_and, Bool.false_and])
        clear hw
        go_upto_region 3 with fail
        refine wp_words (by kernel_rfl) (region_told_u 17 (by kernel_rfl) (by kernel_rfl) [false, false, false, false, false, false, false, false, false, true, true, true, false, false, false, false, false] (fun W => Below wv.heap.size wv W) newer [vIs (smV y), vSv y.s wv.heap.size, vIs (.slice fa f.length fc), vFd f, vIs (.bool false), vIs (smV y), vIs (vi (errN y.s)), vIs (.bool false), vIs (.bool false), vIs (undef), vIs (undef), vIs (undef), vIs (.bool false), vIs (.bool true), vIs (.bool true), vIs (.bool true), vIs (.bool true)] ⟨rfl, rfl, rfl, rfl, rfl, rfl, rfl, rfl, rfl, (fun v W h => by obtain rfl : v = _ := h; simp), (fun v W h => by obtain rfl : v = _ := h; simp), (fun v W h => by obtain rfl : v = _ := h; simp), rfl, rfl, rfl, (fun v W h => by obtain rfl : v = _ := h; rfl), rfl, trivial⟩ ⟨(fun h => Bool.noConfusion (show false = true from h)), (fun h => Bool.noConfusion (show false = true from h)), (fun h => Bool.noConfusion (show false = true from h)), (fun h => Bool.noConfusion (show false = true from h)), (fun h => Bool.noConfusion (show false = true from h)), (fun h => Bool.noConfusion (show false = true from h)), (fun h => Bool.noConfusion (show false = true from h)), (fun h => Bool.noConfusion (show false = true from h)), (fun h => Bool.noConfusion (show false = true from h)), (fun _ _ => rfl), (fun _ _ => rfl), (fun _ _ => rfl), (fun h => Bool.noConfusion (show false = true from h)), (fun h => Bool.noConfusion (show false = true from h)), (fun h => Bool.noConfusion (show false = true from h)), (fun h => Bool.noConfusion (show false = true from h)), (fun h => Bool.noConfusion (show false = true from h)), trivial⟩ (fun h k => newer_trans h k) (pickD_stable _ ⟨vIs_st, vSv_st, vIs_st, vFd_st, vIs_st, vIs_st, vIs_st, vIs_st, vIs_st, vIs_st, vIs_st, vIs_st, vIs_st, vIs_st, vIs_st, vIs_st, vIs_st, trivial⟩) (Below.refl _ wv).drew (Below.refl _ _) ?_ ?_)
        · refine ⟨.inr ?_, .inr ?_, .inr ?_, .inr ?_, .inr ?_, .inr ?_, .inr ?_, .inr ?_, .inr ?_, .inl rfl, .inl rfl, .inl rfl, .inr ?_, .inr ?_, .inr ?_, .inr ?_, .inr ?_, trivial⟩
          · intro a W hG hR hO hp
            have h2 := hO.slot 2 (by kernel_rfl)
            have c0 := keep_cell x0 hG
            have c1 := keep_cell x1 hG
            have c2 := keep_cell x2 hG
            have c3 := keep_cell x3 hG
            have c4 := keep_cell x4 hG
            refine kY (v := smV y) hG rfl ?_
            simp [slotOf] at h2
            simp [execOp, go_sem, h2, c0, c1, c2, c3, c4]
          · intro a W hG hR hO hp
            have h14 : slotOf a 14 = smV y := hp.1
            refine wp_enters (f := 21) (args := #[smV y]) ?_ ((lawSurvey y W (HOK.out.next (newer_trans HN.out hG)) HFW.out).mono ?_)
            · simp [slotOf] at h14
              simp [go_sem, h14]
            · rintro e w' ⟨z, rfl, hz, ho, hb⟩
              exact ⟨_, rfl, _, rfl, ⟨z, rfl, hz, ho.ok⟩, hb, below_next hG hb⟩
          · exact fun a W hG _ hO _ => kM 1 rfl (hO.slot 1 (by kernel_rfl)) rfl hG
          · intro a W hG hR hO hp
            have h16 : slotOf a 16 = .slice fa f.length fc := hp.1
            refine wp_enters (f := 45) (args := #[.slice fa f.length fc]) ?_ ((lawField f fa fc W HFL.out ((HFR.out.below (newer_trans HN.out hG)).more (newer_trans HN.out hG).size)).mono ?_)
            · simp [slotOf] at h16
              simp [go_sem, h16]
            · rintro e w' ⟨B, d, rfl, ho, hb⟩
              exact ⟨_, rfl, _, rfl, ⟨B, d, rfl, row_of_own (enc := mvL) (size := 2) (by decide) (fun _ => rfl) ho⟩, hb, below_next hG hb⟩
          · intro a W hG hR hO hp
            have h15 := hp.1
            have h17 := hp.2.1
            obtain ⟨z, h15, hz, hzo⟩ := h15
            obtain ⟨B, d, h17, hfo⟩ := h17
            have hpr := prove_any z f B d W hzo (few_s hz HFW.out) hfo HFL.out
            rw [hz, HPB.out] at hpr
            refine wp_enters (f := 44) (args := #[smV z, .slice B f.length d]) ?_ (hpr.mono ?_)
            · simp [slotOf] at h15 h17
              simp [go_sem, h15, h17]
            · rintro e w' ⟨rfl, hb⟩
              exact ⟨_, rfl, _, rfl, rfl, hb, below_next hG hb⟩
          · intro a W hG hR hO hp
            have h2 := hO.slot 2 (by kernel_rfl)
            have c0 := keep_cell x0 hG
            have c1 := keep_cell x1 hG
            have c2 := keep_cell x2 hG
            have c3 := keep_cell x3 hG
            have c4 := keep_cell x4 hG
            refine kY (v := smV y) hG rfl ?_
            simp [slotOf] at h2
            simp [execOp, go_sem, h2, c0, c1, c2, c3, c4]
          · intro a W hG hR hO hp
            have h19 : slotOf a 19 = smV y := hp.1
            refine wp_enters (f := 18) (args := #[smV y]) ?_ ((refFault_any y W (HOK.out.next (newer_trans HN.out hG)) HFW.out).mono ?_)
            · simp [slotOf] at h19
              simp [go_sem, h19]
            · rintro e w' ⟨rfl, hb⟩
              exact ⟨_, rfl, _, rfl, rfl, hb, below_next hG hb⟩
          · intro a W hG hR hO hp
            have h20 : slotOf a 20 = vi (errN y.s) := hp.1
            refine kY (v := .bool false) hG rfl ?_
            simp [slotOf] at h20
            simp [execOp, go_sem, h20, he]
          · exact fun a W hG _ _ hp => kM 21 rfl hp.1 rfl hG
          · intro a W hG hR hO hp
            have h22 : slotOf a 22 = .bool false := hp.1
            have h25 : slotOf a 25 = undef := hp.2.1
            refine kY (v := .bool false) hG rfl ?_
            simp [slotOf] at h22 h25
            simp [execOp, go_sem, h22, h25]
          · intro a W hG hR hO hp
            have h18 : slotOf a 18 = .bool false := hp.1
            have h26 : slotOf a 26 = .bool false := hp.2.1
            refine kY (v := .bool true) hG rfl ?_
            simp [slotOf] at h18 h26
            simp [execOp, go_sem, h18, h26]
          · exact fun a W hG _ _ hp => kM 27 rfl hp.1 rfl hG
          · intro a W hG hR hO hp
            refine wp_enters (f := 31) (args := #[]) ?_ ((awake_any W).mono ?_)
            · skip
              simp [go_sem]
            · rintro e w' ⟨rfl, hb⟩
              exact ⟨_, rfl, _, rfl, rfl, hb, below_next hG hb⟩
          · intro a W hG hR hO hp
            have h28 : slotOf a 28 = .bool true := hp.1
            have h29 : slotOf a 29 = .bool true := hp.2.1
            refine kY (v := .bool true) hG rfl ?_
            simp [slotOf] at h28 h29
            simp [execOp, go_sem, h28, h29]
        · intro w3 hG hR
          rintro _ rfl _ hv15 _ rfl _ hv17 _ rfl _ rfl _ rfl _ rfl _ rfl _ rfl _ rfl _ rfl _ rfl _ rfl _ rfl _ rfl _ rfl
          change wpList _ _ _ _ _ _
          simp only [Act.put, List.setIfInBounds_toArray, List.set_cons_zero, List.set_cons_succ, List.drop_succ_cons, List.drop_zero]
          have HE := Lib.hid (newer_trans HN.out hG)
          clear hG hR x0 x1 x2 x3 x4 hv15 hv17
          go_wp2_with fail
          go_ret
          exact ⟨rfl, HE.out⟩
      case pos =>
        have HSD := Lib.hid (err_iff.1 he)
        obtain ⟨b, hb⟩ : ∃ b, b = agreesB y.s f := ⟨_, rfl⟩
        have HPB := Lib.hid (show proveB y.s f = b by rw [hb, prove_is HSD.out])
        have HAG : Hid (∀ W, newer w W → Calls Try.prog 46 #[smV y, .slice fa f.length fc] W fun e w' => e = .returned (.bool b) ∧ newer W w') := Lib.hid (fun W hW => by
          rw [hb]
          exact agreesR_any y f fa fc W (HOK.out.next hW) HSD.out ((HFR.out.below hW).more hW.size) HFL.out)
        clear hw hb
        go_upto_region 3 with fail
        refine wp_words (by kernel_rfl) (region_told_u 17 (by kernel_rfl) (by kernel_rfl) [false, false, false, false, false, false, false, false, false, false, false, false, false, false, false, false, false] (fun W => Below wv.heap.size wv W) newer [vIs (smV y), vSv y.s wv.heap.size, vIs (.slice fa f.length fc), vFd f, vIs (.bool b), vIs (smV y), vIs (vi (errN y.s)), vIs (.bool true), vIs (.bool true), vIs (smV y), vIs (.slice fa f.length fc), vIs (.bool b), vIs (.bool b), vIs (.bool true), vIs (.bool true), vIs (.bool true), vIs (.bool true)] ⟨rfl, rfl, rfl, rfl, rfl, rfl, rfl, rfl, rfl, (fun v W h => by obtain rfl : v = _ := h; rfl), (fun v W h => by obtain rfl : v = _ := h; rfl), (fun v W h => by obtain rfl : v = _ := h; rfl), rfl, rfl, rfl, (fun v W h => by obtain rfl : v = _ := h; rfl), rfl, trivial⟩ ⟨(fun h => Bool.noConfusion (show false = true from h)), (fun h => Bool.noConfusion (show false = true from h)), (fun h => Bool.noConfusion (show false = true from h)), (fun h => Bool.noConfusion (show false = true from h)), (fun h => Bool.noConfusion (show false = true from h)), (fun h => Bool.noConfusion (show false = true from h)), (fun h => Bool.noConfusion (show false = true from h)), (fun h => Bool.noConfusion (show false = true from h)), (fun h => Bool.noConfusion (show false = true from h)), (fun h => Bool.noConfusion (show false = true from h)), (fun h => Bool.noConfusion (show false = true from h)), (fun h => Bool.noConfusion (show false = true from h)), (fun h => Bool.noConfusion (show false = true from h)), (fun h => Bool.noConfusion (show false = true from h)), (fun h => Bool.noConfusion (show false = true from h)), (fun h => Bool.noConfusion (show false = true from h)), (fun h => Bool.noConfusion (show false = true from h)), trivial⟩ (fun h k => newer_trans h k) (pickD_stable _ ⟨vIs_st, vSv_st, vIs_st, vFd_st, vIs_st, vIs_st, vIs_st, vIs_st, vIs_st, vIs_st, vIs_st, vIs_st, vIs_st, vIs_st, vIs_st, vIs_st, vIs_st, trivial⟩) (Below.refl _ wv).drew (Below.refl _ _) ?_ ?_)
        · refine ⟨.inr ?_, .inr ?_, .inr ?_, .inr ?_, .inr ?_, .inr ?_, .inr ?_, .inr ?_, .inr ?_, .inr ?_, .inr ?_, .inr ?_, .inr ?_, .inr ?_, .inr ?_, .inr ?_, .inr ?_, trivial⟩
          · intro a W hG hR hO hp
            have h2 := hO.slot 2 (by kernel_rfl)
            have c0 := keep_cell x0 hG
            have c1 := keep_cell x1 hG
            have c2 := keep_cell x2 hG
            have c3 := keep_cell x3 hG
            have c4 := keep_cell x4 hG
            refine kY (v := smV y) hG rfl ?_
            simp [slotOf] at h2
            simp [execOp, go_sem, h2, c0, c1, c2, c3, c4]
          · intro a W hG hR hO hp
            have h14 : slotOf a 14 = smV y := hp.1
            refine wp_enters (f := 21) (args := #[smV y]) ?_ ((lawSurvey y W (HOK.out.next (newer_trans HN.out hG)) HFW.out).mono ?_)
            · simp [slotOf] at h14
              simp [go_sem, h14]
            · rintro e w' ⟨z, rfl, hz, ho, hb⟩
              exact ⟨_, rfl, _, rfl, ⟨z, rfl, hz, ho.ok⟩, hb, below_next hG hb⟩
          · exact fun a W hG _ hO _ => kM 1 rfl (hO.slot 1 (by kernel_rfl)) rfl hG
          · intro a W hG hR hO hp
            have h16 : slotOf a 16 = .slice fa f.length fc := hp.1
            refine wp_enters (f := 45) (args := #[.slice fa f.length fc]) ?_ ((lawField f fa fc W HFL.out ((HFR.out.below (newer_trans HN.out hG)).more (newer_trans HN.out hG).size)).mono ?_)
            · simp [slotOf] at h16
              simp [go_sem, h16]
            · rintro e w' ⟨B, d, rfl, ho, hb⟩
              exact ⟨_, rfl, _, rfl, ⟨B, d, rfl, row_of_own (enc := mvL) (size := 2) (by decide) (fun _ => rfl) ho⟩, hb, below_next hG hb⟩
          · intro a W hG hR hO hp
            have h15 := hp.1
            have h17 := hp.2.1
            obtain ⟨z, h15, hz, hzo⟩ := h15
            obtain ⟨B, d, h17, hfo⟩ := h17
            have hpr := prove_any z f B d W hzo (few_s hz HFW.out) hfo HFL.out
            rw [hz, HPB.out] at hpr
            refine wp_enters (f := 44) (args := #[smV z, .slice B f.length d]) ?_ (hpr.mono ?_)
            · simp [slotOf] at h15 h17
              simp [go_sem, h15, h17]
            · rintro e w' ⟨rfl, hb⟩
              exact ⟨_, rfl, _, rfl, rfl, hb, below_next hG hb⟩
          · intro a W hG hR hO hp
            have h2 := hO.slot 2 (by kernel_rfl)
            have c0 := keep_cell x0 hG
            have c1 := keep_cell x1 hG
            have c2 := keep_cell x2 hG
            have c3 := keep_cell x3 hG
            have c4 := keep_cell x4 hG
            refine kY (v := smV y) hG rfl ?_
            simp [slotOf] at h2
            simp [execOp, go_sem, h2, c0, c1, c2, c3, c4]
          · intro a W hG hR hO hp
            have h19 : slotOf a 19 = smV y := hp.1
            refine wp_enters (f := 18) (args := #[smV y]) ?_ ((refFault_any y W (HOK.out.next (newer_trans HN.out hG)) HFW.out).mono ?_)
            · simp [slotOf] at h19
              simp [go_sem, h19]
            · rintro e w' ⟨rfl, hb⟩
              exact ⟨_, rfl, _, rfl, rfl, hb, below_next hG hb⟩
          · intro a W hG hR hO hp
            have h20 : slotOf a 20 = vi (errN y.s) := hp.1
            refine kY (v := .bool true) hG rfl ?_
            simp [slotOf] at h20
            simp [execOp, go_sem, h20, he]
          · exact fun a W hG _ _ hp => kM 21 rfl hp.1 rfl hG
          · intro a W hG hR hO hp
            have h2 := hO.slot 2 (by kernel_rfl)
            have c0 := keep_cell x0 hG
            have c1 := keep_cell x1 hG
            have c2 := keep_cell x2 hG
            have c3 := keep_cell x3 hG
            have c4 := keep_cell x4 hG
            refine kY (v := smV y) hG rfl ?_
            simp [slotOf] at h2
            simp [execOp, go_sem, h2, c0, c1, c2, c3, c4]
          · exact fun a W hG _ hO _ => kM 1 rfl (hO.slot 1 (by kernel_rfl)) rfl hG
          · intro a W hG hR hO hp
            have h23 : slotOf a 23 = smV y := hp.1
            have h24 : slotOf a 24 = .slice fa f.length fc := hp.2.1
            refine wp_enters (f := 46) (args := #[smV y, .slice fa f.length fc]) ?_ ((HAG.out W (newer_trans HN.out hG)).mono ?_)
            · simp [slotOf] at h23 h24
              simp [go_sem, h23, h24]
            · rintro e w' ⟨rfl, hb⟩
              exact ⟨_, rfl, _, rfl, rfl, hb, below_next hG hb⟩
          · intro a W hG hR hO hp
            have h22 : slotOf a 22 = .bool true := hp.1
            have h25 : slotOf a 25 = .bool b := hp.2.1
            refine kY (v := .bool b) hG rfl ?_
            simp [slotOf] at h22 h25
            simp [execOp, go_sem, h22, h25]
          · intro a W hG hR hO hp
            have h18 : slotOf a 18 = .bool b := hp.1
            have h26 : slotOf a 26 = .bool b := hp.2.1
            refine kY (v := .bool true) hG rfl ?_
            simp [slotOf] at h18 h26
            simp [execOp, go_sem, h18, h26]
          · exact fun a W hG _ _ hp => kM 27 rfl hp.1 rfl hG
          · intro a W hG hR hO hp
            refine wp_enters (f := 31) (args := #[]) ?_ ((awake_any W).mono ?_)
            · skip
              simp [go_sem]
            · rintro e w' ⟨rfl, hb⟩
              exact ⟨_, rfl, _, rfl, rfl, hb, below_next hG hb⟩
          · intro a W hG hR hO hp
            have h28 : slotOf a 28 = .bool true := hp.1
            have h29 : slotOf a 29 = .bool true := hp.2.1
            refine kY (v := .bool true) hG rfl ?_
            simp [slotOf] at h28 h29
            simp [execOp, go_sem, h28, h29]
        · intro w3 hG hR
          rintro _ rfl _ hv15 _ rfl _ hv17 _ rfl _ rfl _ rfl _ rfl _ rfl _ rfl _ rfl _ rfl _ rfl _ rfl _ rfl _ rfl _ rfl
          change wpList _ _ _ _ _ _
          simp only [Act.put, List.setIfInBounds_toArray, List.set_cons_zero, List.set_cons_succ, List.drop_succ_cons, List.drop_zero]
          have HE := Lib.hid (newer_trans HN.out hG)
          clear hG hR x0 x1 x2 x3 x4 hv15 hv17
          go_wp2_with fail
          go_ret
          exact ⟨rfl, HE.out⟩

end Go.Proofs.Ytpmafnifgegfbaa
