/- RadarTruth walked: it returns true, and leaves what was there. -/
import Derived.Test.YtpmafnifgegfbaaBA
import Derived.Test.YtpmafnifgegfbaaBB
import Derived.Test.YtpmafnifgegfbaaAN
import Derived.Test.YtpmafnifgegfbaaAL2
namespace Go.Proofs.Ytpmafnifgegfbaa
open Go.RowKit Go.Shelf Go.Deep

theorem known_has {s : Sd} {f : Nat → Mv} (hf : Agree s (freeL s) f) {i : Nat} (hi : i < s.spots.length) : ∃ p, (knL s)[i]? = some p ∧ ((p.x.lo ≤ (f i).1 ∧ (f i).1 ≤ p.x.hi) ∧ p.y.lo ≤ (f i).2 ∧ (f i).2 ≤ p.y.hi) :=
  ⟨learnN s i, knL_at hi, learn_has hf hi⟩
set_option maxRecDepth 100000 in
set_option maxHeartbeats 4000000 in
theorem radarTruth_walk (y : Sm) (ws : List Hlf) (B : Option Addr) (bc : Nat) (w : World) (hok : SmOk y w) (hwl : ws.length ≤ maxLen) (hr : Row hwL 1 w w.heap.size B ws) : Calls Try.prog 11 #[smV y, .slice B ws.length bc] w fun e w' => e = .returned (.bool true) ∧ newer w w' := by
  have hnw := newer_allocH w (.cells (smC y) 26)
  have hxb := Whole.made w 26 (smC y)
  have HRD := Lib.hid (ready_any y _ (hok.next hnw))
  have HN0 := Lib.hid (And.intro hnw hxb)
  have HOK := Lib.hid hok
  have HR := Lib.hid hr
  have HWL := Lib.hid hwl
  have x0 := hxb.at 0 (v := .slice y.sa y.s.spots.length y.sc) rfl
  have x1 := hxb.at 1 (v := vi y.s.strain) rfl
  have x2 := hxb.at 2 (v := .slice y.ta y.s.tools.length y.tc) rfl
  have x3 := hxb.at 3 (v := vi y.s.day) rfl
  have x4 := hxb.at 4 (v := .slice y.ra y.s.reads.length y.rc) rfl
  clear hok hnw hxb hr hwl
  cases ht : readyB y.s with
  | false =>
    rw [ht] at HRD
    clear ht
    go_enter Try.func11, Try.ntmps11
    go_wp2_with fail
    refine (HRD.out).mono ?_
    rintro e w1 ⟨rfl, hb1⟩
    have HN := Lib.hid (newer_trans HN0.out.1 hb1)
    clear hb1 HRD HN0 x0 x1 x2 x3 x4
    go_wp2_with fail
    refine (awake_any _).mono ?_
    rintro e wk ⟨rfl, hb⟩
    have HK := Lib.hid (newer_trans (HN.out) hb)
    clear hb
    go_wp2_with fail
    go_ret
    exact ⟨rfl, HK.out⟩
  | true =>
    have HFW := Lib.hid (ready_parts ht).1
    have HSD := Lib.hid (ready_parts ht).2.1
    rw [ht] at HRD
    clear ht
    go_enter Try.func11, Try.ntmps11
    go_wp2_with fail
    refine (HRD.out).mono ?_
    rintro e w1 ⟨rfl, hb1⟩
    have HB := Lib.hid (HN0.out.2.below hb1 HN0.out.2.lt)
    have HN := Lib.hid (newer_trans HN0.out.1 hb1)
    clear hb1 HRD HN0 x0 x1 x2 x3 x4
    have x0 := HB.out.at 0 (v := .slice y.sa y.s.spots.length y.sc) rfl
    have x1 := HB.out.at 1 (v := vi y.s.strain) rfl
    have x2 := HB.out.at 2 (v := .slice y.ta y.s.tools.length y.tc) rfl
    have x3 := HB.out.at 3 (v := vi y.s.day) rfl
    have x4 := HB.out.at 4 (v := .slice y.ra y.s.reads.length y.rc) rfl
    go_wp2_with fail
    refine (truthP_any y ws B bc w1 (HOK.out.next HN.out) HSD.out HWL.out ((HR.out.below HN.out).more HN.out.size)).mono ?_
    rintro e w2 hT
    clear x0 x1 x2 x3 x4
    rcases hT with ⟨f, fa, fc, hT1, rfl, hT2, hn⟩ | ⟨_, rfl, hn⟩
    case inr =>
      have HN2 := Lib.hid (newer_trans HN.out hn)
      clear hn
      go_wp2_with fail
      refine (awake_any _).mono ?_
      rintro e wk ⟨rfl, hb⟩
      have HK := Lib.hid (newer_trans (HN2.out) hb)
      clear hb
      go_wp2_with fail
      go_ret
      exact ⟨rfl, HK.out⟩
    case inl =>
      have HF := Lib.hid (truth_field hT1)
      have HFR := Lib.hid (row_of_own (enc := mvL) (size := 2) (by decide) (fun _ => rfl) hT2)
      have H2 := Lib.hid hn
      have HN2 := Lib.hid (newer_trans HN.out hn)
      clear hT1 hT2 hn
      have x0 := (HB.out.below H2.out HB.out.lt).at 0 (v := .slice y.sa y.s.spots.length y.sc) rfl
      have x1 := (HB.out.below H2.out HB.out.lt).at 1 (v := vi y.s.strain) rfl
      have x2 := (HB.out.below H2.out HB.out.lt).at 2 (v := .slice y.ta y.s.tools.length y.tc) rfl
      have x3 := (HB.out.below H2.out HB.out.lt).at 3 (v := vi y.s.day) rfl
      have x4 := (HB.out.below H2.out HB.out.lt).at 4 (v := .slice y.ra y.s.reads.length y.rc) rfl
      go_wp2_with fail
      refine (seenP_any y f fa fc ws B bc w2 (HOK.out.next HN2.out) HSD.out HF.out.1 HF.out.2 HFR.out HWL.out ((HR.out.below HN2.out).more HN2.out.size)).mono ?_
      rintro e w3 hT
      clear x0 x1 x2 x3 x4
      rcases hT with ⟨rd, l, RA, rc2, LA, lc, hT1, rfl, hT2, hn⟩ | ⟨_, rfl, hn⟩
      case inr =>
        have HN3 := Lib.hid (newer_trans HN2.out hn)
        clear hn
        go_wp2_with fail
        refine (awake_any _).mono ?_
        rintro e wk ⟨rfl, hb⟩
        have HK := Lib.hid (newer_trans (HN3.out) hb)
        clear hb
        go_wp2_with fail
        go_ret
        exact ⟨rfl, HK.out⟩
      case inl =>
        obtain ⟨hrl, htu, hmd⟩ := seen_made HSD.out hT1
        obtain ⟨hxo, hag, _, hin⟩ := truth_law HSD.out HF.out.2 hrl (ksW_len y.s ws _) hmd
        rw [htu] at hin
        have HX := Lib.hid (And.intro hxo (And.intro hag hin))
        have HRL := Lib.hid hrl
        have HTW := Lib.hid hT2
        have H3 := Lib.hid (newer_trans H2.out hn)
        have HN3 := Lib.hid (newer_trans HN2.out hn)
        have HFR3 := Lib.hid ((HFR.out.below hn).more hn.size)
        clear hrl htu hmd hxo hag hin hT1 hT2 hn HFR
        have x0 := (HB.out.below H3.out HB.out.lt).at 0 (v := .slice y.sa y.s.spots.length y.sc) rfl
        have x1 := (HB.out.below H3.out HB.out.lt).at 1 (v := vi y.s.strain) rfl
        have x2 := (HB.out.below H3.out HB.out.lt).at 2 (v := .slice y.ta y.s.tools.length y.tc) rfl
        have x3 := (HB.out.below H3.out HB.out.lt).at 3 (v := vi y.s.day) rfl
        have x4 := (HB.out.below H3.out HB.out.lt).at 4 (v := .slice y.ra y.s.reads.length y.rc) rfl
        go_wp2_with fail
        refine (survey_any y w3 (HOK.out.next HN3.out) HFW.out).mono ?_
        rintro e w4 ⟨sa, sc, ta, tc, ra, rc, rfl, ho, hn⟩
        have H4 := Lib.hid (And.intro ho hn)
        clear ho hn x0 x1 x2 x3 x4
        go_upto_region 10 with fail
        obtain ⟨xb, hxb⟩ : ∃ q, q = w4.heap.size := ⟨_, rfl⟩
        rw [← hxb]
        refine genQ (fun X => newer w4 X ∧ Whole X xb 40 #[.slice sa y.s.spots.length sc, vi y.s.strain, .slice ta y.s.tools.length tc, vi y.s.day, .slice ra y.s.reads.length rc]) ⟨newer_allocH _ _, by rw [hxb]; exact Whole.made _ _ _⟩ ?_
        rintro w5 ⟨hn5, hx5⟩
        have z4 := hx5.at 4 (v := .slice ra y.s.reads.length rc) rfl
        have f4 := hx5.free 4
        have H5 := Lib.hid (And.intro (newer_trans H4.out.2 hn5) (And.intro hx5 (H4.out.1.next hn5)))
        have HXB := Lib.hid (show w3.heap.size ≤ xb by rw [hxb]; exact H4.out.2.size)
        clear hn5 hx5 hxb H4
        go_upto_region 11 with fail
        obtain ⟨X, hX⟩ : ∃ X : Sm, X = ⟨{ y.s with reads := rd }, sa, sc, ta, tc, RA, rc2⟩ := ⟨_, rfl⟩
        have hXs : X.s = { y.s with reads := rd } := by rw [hX]
        have hXv : smV X = .agg #[.slice sa y.s.spots.length sc, vi y.s.strain, .slice ta y.s.tools.length tc, vi y.s.day, .slice RA rd.length rc2] := by rw [hX]
        have hfar : ∀ {e : TypeId} {q s n : Nat} {v : Value} {ys : List Value}, w5.ownsRow q e s v n ys → e ≠ 40 → (w5.setCell ⟨xb, 4, none⟩ (.slice RA rd.length rc2)).ownsRow q e s v n ys := fun hv hne => own_set hv (own_ne hv H5.out.2.1 hne) _
        refine genQ (fun Y => newer w3 Y ∧ Whole Y xb 40 #[.slice sa y.s.spots.length sc, vi y.s.strain, .slice ta y.s.tools.length tc, vi y.s.day, .slice RA rd.length rc2] ∧ SmOk X Y) ⟨H5.out.1.setCell (p := ⟨xb, 4, none⟩) HXB.out _, H5.out.2.1.set 4 _, ?_⟩ ?_
        · rw [hX]
          exact ⟨row_of_own (enc := spL) (size := 4) (by decide) (fun _ => rfl) (hfar H5.out.2.2.sp (by decide)), row_of_own (enc := tlL) (size := 7) (by decide) (fun _ => rfl) (hfar H5.out.2.2.tl (by decide)), row_of_own (enc := intL) (size := 1) (by decide) (fun _ => rfl) (by
            have h := hfar (own_below HTW.out.o1 H5.out.1) (by decide)
            rw [← map_vi] at h
            exact h)⟩
        rintro w6 ⟨hn6, hx6, ho6⟩
        have hXf : SmFew X := ⟨by rw [hXs]; exact HFW.out.sp, by rw [hXs]; exact HFW.out.tl, by rw [hXs]; show rd.length ≤ _; rw [HRL.out]; exact HFW.out.tl⟩
        have HXK := Lib.hid (And.intro hXs (And.intro hXv hXf))
        have hok := (ok_iff (s := { y.s with reads := rd }) (by have := HSD.out.spots.1; exact this)).2 ⟨fnL f, HX.out.2.1⟩
        have hle := learn_yes HX.out.1 hok
        have HLE := Lib.hid hle
        have HLX : Hid (∀ W, newer w6 W → Calls Try.prog 26 #[.agg #[.slice sa y.s.spots.length sc, vi y.s.strain, .slice ta y.s.tools.length tc, vi y.s.day, .slice RA rd.length rc2]] W fun e w' => ∃ B d, e = .returned (.tuple #[.slice B (knL { y.s with reads := rd }).length d, vi 0]) ∧ w'.ownsRow W.heap.size 56 4 (.slice B (knL { y.s with reads := rd }).length d) (knL { y.s with reads := rd }).length ((knL { y.s with reads := rd }).flatMap spL) ∧ newer W w') := Lib.hid (fun W hW => by
          have h := learn_all X W (ho6.next hW) hXf
          rw [hXs, hle.1, hle.2, hXv] at h
          exact h)
        obtain ⟨F, hF⟩ : ∃ q, q = turnE { y.s with reads := rd } := ⟨_, rfl⟩
        obtain ⟨TT, hTT⟩ : ∃ q, q = turnLs { y.s with reads := rd } := ⟨_, rfl⟩
        have HTX : Hid (∀ W, newer w6 W → Calls Try.prog 32 #[.agg #[.slice sa y.s.spots.length sc, vi y.s.strain, .slice ta y.s.tools.length tc, vi y.s.day, .slice RA rd.length rc2]] W fun e w' => ∃ xs A c, e = .returned (.tuple #[.slice A xs.length c, vi F]) ∧ xs.map (·.l) = TT ∧ LlOwn xs A c W.heap.size w' ∧ newer W w') := Lib.hid (fun W hW => by
          have h := turns_all X W (ho6.next hW) hXf
          rw [hXs, ← hF, ← hTT, hXv] at h
          exact h)
        have hcs := turn_have HX.out.1 HX.out.2.2
        rw [← hF, ← hTT] at hcs
        have HCK : Hid (∀ W, newer w6 W → Calls Try.prog 42 #[.agg #[.slice sa y.s.spots.length sc, vi y.s.strain, .slice ta y.s.tools.length tc, vi y.s.day, .slice RA rd.length rc2]] W fun e w' => e = .returned (vi 0) ∧ newer W w') := Lib.hid (fun W hW => by
          have h := checkSurvey_any X W (ho6.next hW) hXf
          rw [hXs, err_iff.2 HX.out.1, hXv] at h
          exact h)
        have HPB := Lib.hid (show proveB { y.s with reads := rd } f = true by rw [prove_is HX.out.1]; exact (agrees_iff HX.out.1).2 ⟨HF.out.1, HX.out.2.1⟩)
        have HPR : Hid (∀ B d W, newer w6 W → Row mvL 2 W W.heap.size B f → Calls Try.prog 44 #[.agg #[.slice sa y.s.spots.length sc, vi y.s.strain, .slice ta y.s.tools.length tc, vi y.s.day, .slice RA rd.length rc2], .slice B f.length d] W fun e w' => e = .returned (.bool true) ∧ newer W w') := Lib.hid (fun B d W hW hfo => by
          have h := prove_any X f B d W (ho6.next hW) hXf hfo (by have h1 := HF.out.1; have h2 := HSD.out.spots.2; omega)
          rw [hXs, HPB.out, hXv] at h
          exact h)
        have HFD0 : Hid (∀ W, newer w6 W → Calls Try.prog 45 #[.slice fa f.length fc] W fun e w' => ∃ B d, e = .returned (.slice B f.length d) ∧ w'.ownsRow W.heap.size 116 2 (.slice B f.length d) f.length (f.flatMap mvL) ∧ newer W w') := Lib.hid (fun W hW => lawField f fa fc W (by have h1 := HF.out.1; have h2 := HSD.out.spots.2; omega) ((HFR3.out.below (newer_trans hn6 hW)).more (newer_trans hn6 hW).size))
        have H6 := Lib.hid (And.intro hn6 hx6)
        have HLD := Lib.hid ((row_of_own (enc := intL) (size := 1) (by decide) (fun _ => rfl) (show w3.ownsRow w2.heap.size 3 1 (.slice LA l.length lc) l.length (l.flatMap intL) by rw [map_vi]; exact HTW.out.o2)))
        clear hX hXs hXv hfar hXf hle hok ho6 hF hTT hn6 hx6 z4 f4 HXK HTW H5
        have x0 := H6.out.2.at 0 (v := .slice sa y.s.spots.length sc) rfl
        have x1 := H6.out.2.at 1 (v := vi y.s.strain) rfl
        have x2 := H6.out.2.at 2 (v := .slice ta y.s.tools.length tc) rfl
        have x3 := H6.out.2.at 3 (v := vi y.s.day) rfl
        have x4 := H6.out.2.at 4 (v := .slice RA rd.length rc2) rfl
        go_wp2_with fail
        refine (HLX.out w6 (newer_refl _)).mono ?_
        rintro e w7 ⟨B1, d1, rfl, hl1, hn⟩
        have H7 := Lib.hid (And.intro hl1 hn)
        clear hl1 hn x0 x1 x2 x3 x4 HLX
        have x0 := (H6.out.2.below H7.out.2 H6.out.2.lt).at 0 (v := .slice sa y.s.spots.length sc) rfl
        have x1 := (H6.out.2.below H7.out.2 H6.out.2.lt).at 1 (v := vi y.s.strain) rfl
        have x2 := (H6.out.2.below H7.out.2 H6.out.2.lt).at 2 (v := .slice ta y.s.tools.length tc) rfl
        have x3 := (H6.out.2.below H7.out.2 H6.out.2.lt).at 3 (v := vi y.s.day) rfl
        have x4 := (H6.out.2.below H7.out.2 H6.out.2.lt).at 4 (v := .slice RA rd.length rc2) rfl
        go_wp2_with fail
        refine (HTX.out w7 H7.out.2).mono ?_
        rintro e w8 ⟨xs, A3, c3, rfl, hxs, hox, hn⟩
        have hxl : xs.length = TT.length := by rw [← hxs, List.length_map]
        have HXS := Lib.hid (And.intro hxs (And.intro hxl hox))
        have H8 := Lib.hid (And.intro hn (newer_trans H7.out.2 hn))
        rw [hxl]
        clear hxs hxl hox hn x0 x1 x2 x3 x4 HTX
        obtain ⟨n, hn⟩ : ∃ n, n = f.length := ⟨_, rfl⟩
        have hns : n = y.s.spots.length := by rw [hn]; exact HF.out.1
        have hkn : (knL { y.s with reads := rd }).length = n := by rw [hns]; exact knK_len _ _
        have hn6 : n ≤ 6 := by rw [hns]; exact HSD.out.spots.2
        obtain ⟨mT, hmT⟩ : ∃ m, m = TT.length := ⟨_, rfl⟩
        have HFD : Hid (∀ W, newer w8 W → Calls Try.prog 45 #[.slice fa n fc] W fun e w' => ∃ B d, e = .returned (.slice B f.length d) ∧ w'.ownsRow W.heap.size 116 2 (.slice B f.length d) f.length (f.flatMap mvL) ∧ newer W w') := Lib.hid (fun W hW => by rw [hn]; exact HFD0.out W (newer_trans H8.out.2 hW))
        rw [hkn, ← hn, ← hmT]
        have HNN := Lib.hid (And.intro hn (And.intro hns hkn))
        have HMT := Lib.hid hmT
        have HCS := Lib.hid hcs
        clear hn hns hkn hmT hcs HFD0
        have x0 := (H6.out.2.below H8.out.2 H6.out.2.lt).at 0 (v := .slice sa y.s.spots.length sc) rfl
        have x1 := (H6.out.2.below H8.out.2 H6.out.2.lt).at 1 (v := vi y.s.strain) rfl
        have x2 := (H6.out.2.below H8.out.2 H6.out.2.lt).at 2 (v := .slice ta y.s.tools.length tc) rfl
        have x3 := (H6.out.2.below H8.out.2 H6.out.2.lt).at 3 (v := vi y.s.day) rfl
        have x4 := (H6.out.2.below H8.out.2 H6.out.2.lt).at 4 (v := .slice RA rd.length rc2) rfl
        go_upto_region 13 with fail
        refine wp_words (by kernel_rfl) (region_told_u 20 (by kernel_rfl) (by kernel_rfl) [false, false, false, false, false, false, false, false, false, false, false, false, false, false, false, false, false, false, false, false] (fun W => Below w8.heap.size w8 W) newer [vIs (vi 0), vIs (.bool false), vIs (.bool false), vIs (.slice B1 n d1), vIs (.int .i64 n), vIs (.slice fa n fc), vIs (.int .i64 n), vIs (.bool false), vIs (.bool false), vIs (.bool false), vIs (.agg #[.slice sa y.s.spots.length sc, vi y.s.strain, .slice ta y.s.tools.length tc, vi y.s.day, .slice RA rd.length rc2]), vIs (.slice fa n fc), vFd f, vIs (.bool true), vIs (.bool false), vIs (.bool false), vIs (.bool false), vIs (.agg #[.slice sa y.s.spots.length sc, vi y.s.strain, .slice ta y.s.tools.length tc, vi y.s.day, .slice RA rd.length rc2]), vIs (vi 0), vIs (.bool false)] ⟨rfl, rfl, rfl, (fun v W h => by obtain rfl : v = _ := h; rfl), (fun v W h => by obtain rfl : v = _ := h; rfl), (fun v W h => by obtain rfl : v = _ := h; rfl), (fun v W h => by obtain rfl : v = _ := h; rfl), (fun v W h => by obtain rfl : v = _ := h; rfl), rfl, rfl, (fun v W h => by obtain rfl : v = _ := h; rfl), (fun v W h => by obtain rfl : v = _ := h; rfl), (fun v W h => by obtain rfl : v = _ := h; rfl), (fun v W h => by obtain rfl : v = _ := h; rfl), (fun v W h => by obtain rfl : v = _ := h; rfl), rfl, rfl, (fun v W h => by obtain rfl : v = _ := h; rfl), (fun v W h => by obtain rfl : v = _ := h; rfl), (fun v W h => by obtain rfl : v = _ := h; rfl), trivial⟩ ⟨(fun h => Bool.noConfusion (show false = true from h)), (fun h => Bool.noConfusion (show false = true from h)), (fun h => Bool.noConfusion (show false = true from h)), (fun h => Bool.noConfusion (show false = true from h)), (fun h => Bool.noConfusion (show false = true from h)), (fun h => Bool.noConfusion (show false = true from h)), (fun h => Bool.noConfusion (show false = true from h)), (fun h => Bool.noConfusion (show false = true from h)), (fun h => Bool.noConfusion (show false = true from h)), (fun h => Bool.noConfusion (show false = true from h)), (fun h => Bool.noConfusion (show false = true from h)), (fun h => Bool.noConfusion (show false = true from h)), (fun h => Bool.noConfusion (show false = true from h)), (fun h => Bool.noConfusion (show false = true from h)), (fun h => Bool.noConfusion (show false = true from h)), (fun h => Bool.noConfusion (show false = true from h)), (fun h => Bool.noConfusion (show false = true from h)), (fun h => Bool.noConfusion (show false = true from h)), (fun h => Bool.noConfusion (show false = true from h)), (fun h => Bool.noConfusion (show false = true from h)), trivial⟩ (fun h k => newer_trans h k) (pickD_stable _ ⟨vIs_st, vIs_st, vIs_st, vIs_st, vIs_st, vIs_st, vIs_st, vIs_st, vIs_st, vIs_st, vIs_st, vIs_st, vFd_st, vIs_st, vIs_st, vIs_st, vIs_st, vIs_st, vIs_st, vIs_st, trivial⟩) (Below.refl _ w8).drew (Below.refl _ _) ?_ ?_)
        · refine ⟨.inr ?_, .inr ?_, .inr ?_, .inr ?_, .inr ?_, .inr ?_, .inr ?_, .inr ?_, .inr ?_, .inr ?_, .inr ?_, .inr ?_, .inr ?_, .inr ?_, .inr ?_, .inr ?_, .inr ?_, .inr ?_, .inr ?_, .inr ?_, trivial⟩
          · exact fun a W hG _ hO _ => kM 12 rfl (hO.slot 12 (by kernel_rfl)) rfl hG
          · intro a W hG hR hO hp
            have h56 : slotOf a 56 = vi 0 := hp.1
            refine kY (v := .bool false) hG rfl ?_
            simp [slotOf] at h56
            simp [execOp, go_sem, h56]
          · exact fun a W hG _ _ hp => kM 57 rfl hp.1 rfl hG
          · exact fun a W hG _ hO _ => kM 11 rfl (hO.slot 11 (by kernel_rfl)) rfl hG
          · intro a W hG hR hO hp
            have h59 : slotOf a 59 = .slice B1 n d1 := hp.1
            refine kY (v := .int .i64 n) hG rfl ?_
            simp [slotOf] at h59
            simp [go_sem, h59]
          · exact fun a W hG _ hO _ => kM 5 rfl (hO.slot 5 (by kernel_rfl)) rfl hG
          · intro a W hG hR hO hp
            have h61 : slotOf a 61 = .slice fa n fc := hp.1
            refine kY (v := .int .i64 n) hG rfl ?_
            simp [slotOf] at h61
            simp [go_sem, h61]
          · intro a W hG hR hO hp
            have h60 : slotOf a 60 = .int .i64 n := hp.1
            have h62 : slotOf a 62 = .int .i64 n := hp.2.1
            refine kY (v := .bool false) hG rfl ?_
            simp [slotOf] at h60 h62
            simp [execOp, go_sem, h60, h62]
          · intro a W hG hR hO hp
            have h58 : slotOf a 58 = .bool false := hp.1
            have h63 : slotOf a 63 = .bool false := hp.2.1
            refine kY (v := .bool false) hG rfl ?_
            simp [slotOf] at h58 h63
            simp [execOp, go_sem, h58, h63]
          · exact fun a W hG _ _ hp => kM 64 rfl hp.1 rfl hG
          · intro a W hG hR hO hp
            have h10 := hO.slot 10 (by kernel_rfl)
            have c0 := keep_cell x0 hG
            have c1 := keep_cell x1 hG
            have c2 := keep_cell x2 hG
            have c3 := keep_cell x3 hG
            have c4 := keep_cell x4 hG
            refine kY (v := .agg #[.slice sa y.s.spots.length sc, vi y.s.strain, .slice ta y.s.tools.length tc, vi y.s.day, .slice RA rd.length rc2]) hG rfl ?_
            simp [slotOf] at h10
            simp [execOp, go_sem, h10, c0, c1, c2, c3, c4]
          · exact fun a W hG _ hO _ => kM 5 rfl (hO.slot 5 (by kernel_rfl)) rfl hG
          · intro a W hG hR hO hp
            have h67 : slotOf a 67 = .slice fa n fc := hp.1
            refine wp_enters (f := 45) (args := #[.slice fa n fc]) ?_ ((HFD.out W hG).mono ?_)
            · simp [slotOf] at h67
              simp [go_sem, h67]
            · rintro e w' ⟨B, d, rfl, ho, hb⟩
              exact ⟨_, rfl, _, rfl, ⟨B, d, rfl, row_of_own (enc := mvL) (size := 2) (by decide) (fun _ => rfl) ho⟩, hb, below_next hG hb⟩
          · intro a W hG hR hO hp
            have h66 : slotOf a 66 = .agg #[.slice sa y.s.spots.length sc, vi y.s.strain, .slice ta y.s.tools.length tc, vi y.s.day, .slice RA rd.length rc2] := hp.1
            have h68 := hp.2.1
            obtain ⟨B, d, h68, hfo⟩ := h68
            refine wp_enters (f := 44) (args := #[.agg #[.slice sa y.s.spots.length sc, vi y.s.strain, .slice ta y.s.tools.length tc, vi y.s.day, .slice RA rd.length rc2], .slice B f.length d]) ?_ ((HPR.out B d W (newer_trans H8.out.2 hG) hfo).mono ?_)
            · simp [slotOf] at h66 h68
              simp [go_sem, h66, h68]
            · rintro e w' ⟨rfl, hb⟩
              exact ⟨_, rfl, _, rfl, rfl, hb, below_next hG hb⟩
          · intro a W hG hR hO hp
            have h69 : slotOf a 69 = .bool true := hp.1
            refine kY (v := .bool false) hG rfl ?_
            simp [slotOf] at h69
            simp [execOp, go_sem, h69]
          · intro a W hG hR hO hp
            have h65 : slotOf a 65 = .bool false := hp.1
            have h70 : slotOf a 70 = .bool false := hp.2.1
            refine kY (v := .bool false) hG rfl ?_
            simp [slotOf] at h65 h70
            simp [execOp, go_sem, h65, h70]
          · exact fun a W hG _ _ hp => kM 71 rfl hp.1 rfl hG
          · intro a W hG hR hO hp
            have h10 := hO.slot 10 (by kernel_rfl)
            have c0 := keep_cell x0 hG
            have c1 := keep_cell x1 hG
            have c2 := keep_cell x2 hG
            have c3 := keep_cell x3 hG
            have c4 := keep_cell x4 hG
            refine kY (v := .agg #[.slice sa y.s.spots.length sc, vi y.s.strain, .slice ta y.s.tools.length tc, vi y.s.day, .slice RA rd.length rc2]) hG rfl ?_
            simp [slotOf] at h10
            simp [execOp, go_sem, h10, c0, c1, c2, c3, c4]
          · intro a W hG hR hO hp
            have h73 : slotOf a 73 = .agg #[.slice sa y.s.spots.length sc, vi y.s.strain, .slice ta y.s.tools.length tc, vi y.s.day, .slice RA rd.length rc2] := hp.1
            refine wp_enters (f := 42) (args := #[.agg #[.slice sa y.s.spots.length sc, vi y.s.strain, .slice ta y.s.tools.length tc, vi y.s.day, .slice RA rd.length rc2]]) ?_ ((HCK.out W (newer_trans H8.out.2 hG)).mono ?_)
            · simp [slotOf] at h73
              simp [go_sem, h73]
            · rintro e w' ⟨rfl, hb⟩
              exact ⟨_, rfl, _, rfl, rfl, hb, below_next hG hb⟩
          · intro a W hG hR hO hp
            have h74 : slotOf a 74 = vi 0 := hp.1
            refine kY (v := .bool false) hG rfl ?_
            simp [slotOf] at h74
            simp [execOp, go_sem, h74]
        · intro w9 hG hR
          rintro _ rfl _ rfl _ rfl _ rfl _ rfl _ rfl _ rfl _ rfl _ rfl _ rfl _ rfl _ rfl _ hv68 _ rfl _ rfl _ rfl _ rfl _ rfl _ rfl _ rfl
          change wpList _ _ _ _ _ _
          simp only [Act.put, List.setIfInBounds_toArray, List.set_cons_zero, List.set_cons_succ, List.drop_succ_cons, List.drop_zero]
          have H9 := Lib.hid hG
          clear hG hR x0 x1 x2 x3 x4 hv68
          go_wp2_with fail
          go_loopw [15] (fun s15 wr => ∃ i : Nat, i ≤ n ∧ s15 = vi i ∧ newer w9 wr) (fun s15 _ => n - (intOf s15).toNat)
          case atStart => exact ⟨0, Nat.zero_le _, rfl, newer_refl _⟩
          case round =>
            obtain ⟨i, hi, rfl, hnx⟩ := hrel
            have HNX := Lib.hid hnx
            by_cases hlt : i < n
            case pos =>
              have hin : (i : Int) < n := by omega
              obtain ⟨m, hm⟩ : ∃ m, f[i]? = some m := ⟨_, List.getElem?_eq_getElem (by have := HNN.out.1; omega)⟩
              obtain ⟨p, hp, hpm⟩ := known_has (s := { y.s with reads := rd }) (f := fnL f) HX.out.2.1 (i := i) (by have := HNN.out.2.1; exact (by omega : i < y.s.spots.length))
              rw [fnL_at hm] at hpm
              have c1x : ¬ m.1 < p.x.lo := by omega
              have c2x : ¬ p.x.hi < m.1 := by omega
              have c3x : ¬ m.2 < p.y.lo := by omega
              have c4x : ¬ p.y.hi < m.2 := by omega
              have hn8 := newer_trans H9.out hnx
              have hn7 := newer_trans H8.out.1 hn8
              have hn3 := newer_trans H6.out.1 (newer_trans H8.out.2 hn8)
              obtain ⟨fb, fo, ef, _, m0, m1⟩ := row2 (HFR3.out.below hn3) hm
              obtain ⟨lb, lo, el, _, p0, p1, p2, p3⟩ := row4 (row_of_own (enc := spL) (size := 4) (by decide) (fun _ => rfl) (own_below H7.out.1 hn7)) hp
              rw [ef, el]
              clear hm hp hpm hn8 hn7 hn3 ef el hnx
              go_upto_region 18 with fail
              refine wp_words (by kernel_rfl) (region_told_u 53 (by kernel_rfl) (by kernel_rfl) [false, false, false, false, false, false, false, false, false, false, false, false, false, false, false, false, false, false, false, false, false, false, false, false, false, false, false, false, false, false, false, false, false, false, false, false, false, false, false, false, false, false, false, false, false, false, false, false, false, false, false, false, false] (fun W => Below wr.heap.size wr W) newer [vIs (.slice (some ⟨fb, fo, none⟩) n fc), vIs (.int .i64 i), vIs (.pointer (some ⟨fb, fo + i * 2, none⟩)), vIs (.pointer (some ⟨fb, fo + i * 2, none⟩)), vIs (vi m.1), vIs (.slice (some ⟨lb, lo, none⟩) n d1), vIs (.int .i64 i), vIs (.pointer (some ⟨lb, lo + i * 4, none⟩)), vIs (.pointer (some ⟨lb, lo + i * 4, none⟩)), vIs (.pointer (some ⟨lb, lo + i * 4, none⟩)), vIs (vi p.x.lo), vIs (.bool false), vIs (.bool false), vIs (.slice (some ⟨fb, fo, none⟩) n fc), vIs (.int .i64 i), vIs (.pointer (some ⟨fb, fo + i * 2, none⟩)), vIs (.pointer (some ⟨fb, fo + i * 2, none⟩)), vIs (vi m.1), vIs (.slice (some ⟨lb, lo, none⟩) n d1), vIs (.int .i64 i), vIs (.pointer (some ⟨lb, lo + i * 4, none⟩)), vIs (.pointer (some ⟨lb, lo + i * 4, none⟩)), vIs (.pointer (some ⟨lb, lo + i * 4 + 1, none⟩)), vIs (vi p.x.hi), vIs (.bool false), vIs (.bool false), vIs (.bool false), vIs (.slice (some ⟨fb, fo, none⟩) n fc), vIs (.int .i64 i), vIs (.pointer (some ⟨fb, fo + i * 2, none⟩)), vIs (.pointer (some ⟨fb, fo + i * 2 + 1, none⟩)), vIs (vi m.2), vIs (.slice (some ⟨lb, lo, none⟩) n d1), vIs (.int .i64 i), vIs (.pointer (some ⟨lb, lo + i * 4, none⟩)), vIs (.pointer (some ⟨lb, lo + i * 4 + 2, none⟩)), vIs (.pointer (some ⟨lb, lo + i * 4 + 2, none⟩)), vIs (vi p.y.lo), vIs (.bool false), vIs (.bool false), vIs (.bool false), vIs (.slice (some ⟨fb, fo, none⟩) n fc), vIs (.int .i64 i), vIs (.pointer (some ⟨fb, fo + i * 2, none⟩)), vIs (.pointer (some ⟨fb, fo + i * 2 + 1, none⟩)), vIs (vi m.2), vIs (.slice (some ⟨lb, lo, none⟩) n d1), vIs (.int .i64 i), vIs (.pointer (some ⟨lb, lo + i * 4, none⟩)), vIs (.pointer (some ⟨lb, lo + i * 4 + 2, none⟩)), vIs (.pointer (some ⟨lb, lo + i * 4 + 2 + 1, none⟩)), vIs (vi p.y.hi), vIs (.bool false)] ⟨rfl, rfl, rfl, rfl, rfl, rfl, rfl, rfl, rfl, rfl, rfl, rfl, rfl, (fun v W h => by obtain rfl : v = _ := h; rfl), (fun v W h => by obtain rfl : v = _ := h; rfl), (fun v W h => by obtain rfl : v = _ := h; rfl), (fun v W h => by obtain rfl : v = _ := h; rfl), (fun v W h => by obtain rfl : v = _ := h; rfl), (fun v W h => by obtain rfl : v = _ := h; rfl), (fun v W h => by obtain rfl : v = _ := h; rfl), (fun v W h => by obtain rfl : v = _ := h; rfl), (fun v W h => by obtain rfl : v = _ := h; rfl), (fun v W h => by obtain rfl : v = _ := h; rfl), (fun v W h => by obtain rfl : v = _ := h; rfl), (fun v W h => by obtain rfl : v = _ := h; rfl), rfl, rfl, (fun v W h => by obtain rfl : v = _ := h; rfl), (fun v W h => by obtain rfl : v = _ := h; rfl), (fun v W h => by obtain rfl : v = _ := h; rfl), (fun v W h => by obtain rfl : v = _ := h; rfl), (fun v W h => by obtain rfl : v = _ := h; rfl), (fun v W h => by obtain rfl : v = _ := h; rfl), (fun v W h => by obtain rfl : v = _ := h; rfl), (fun v W h => by obtain rfl : v = _ := h; rfl), (fun v W h => by obtain rfl : v = _ := h; rfl), (fun v W h => by obtain rfl : v = _ := h; rfl), (fun v W h => by obtain rfl : v = _ := h; rfl), (fun v W h => by obtain rfl : v = _ := h; rfl), rfl, rfl, (fun v W h => by obtain rfl : v = _ := h; rfl), (fun v W h => by obtain rfl : v = _ := h; rfl), (fun v W h => by obtain rfl : v = _ := h; rfl), (fun v W h => by obtain rfl : v = _ := h; rfl), (fun v W h => by obtain rfl : v = _ := h; rfl), (fun v W h => by obtain rfl : v = _ := h; rfl), (fun v W h => by obtain rfl : v = _ := h; rfl), (fun v W h => by obtain rfl : v = _ := h; rfl), (fun v W h => by obtain rfl : v = _ := h; rfl), (fun v W h => by obtain rfl : v = _ := h; rfl), (fun v W h => by obtain rfl : v = _ := h; rfl), (fun v W h => by obtain rfl : v = _ := h; rfl), trivial⟩ ⟨(fun h => Bool.noConfusion (show false = true from h)), (fun h => Bool.noConfusion (show false = true from h)), (fun h => Bool.noConfusion (show false = true from h)), (fun h => Bool.noConfusion (show false = true from h)), (fun h => Bool.noConfusion (show false = true from h)), (fun h => Bool.noConfusion (show false = true from h)), (fun h => Bool.noConfusion (show false = true from h)), (fun h => Bool.noConfusion (show false = true from h)), (fun h => Bool.noConfusion (show false = true from h)), (fun h => Bool.noConfusion (show false = true from h)), (fun h => Bool.noConfusion (show false = true from h)), (fun h => Bool.noConfusion (show false = true from h)), (fun h => Bool.noConfusion (show false = true from h)), (fun h => Bool.noConfusion (show false = true from h)), (fun h => Bool.noConfusion (show false = true from h)), (fun h => Bool.noConfusion (show false = true from h)), (fun h => Bool.noConfusion (show false = true from h)), (fun h => Bool.noConfusion (show false = true from h)), (fun h => Bool.noConfusion (show false = true from h)), (fun h => Bool.noConfusion (show false = true from h)), (fun h => Bool.noConfusion (show false = true from h)), (fun h => Bool.noConfusion (show false = true from h)), (fun h => Bool.noConfusion (show false = true from h)), (fun h => Bool.noConfusion (show false = true from h)), (fun h => Bool.noConfusion (show false = true from h)), (fun h => Bool.noConfusion (show false = true from h)), (fun h => Bool.noConfusion (show false = true from h)), (fun h => Bool.noConfusion (show false = true from h)), (fun h => Bool.noConfusion (show false = true from h)), (fun h => Bool.noConfusion (show false = true from h)), (fun h => Bool.noConfusion (show false = true from h)), (fun h => Bool.noConfusion (show false = true from h)), (fun h => Bool.noConfusion (show false = true from h)), (fun h => Bool.noConfusion (show false = true from h)), (fun h => Bool.noConfusion (show false = true from h)), (fun h => Bool.noConfusion (show false = true from h)), (fun h => Bool.noConfusion (show false = true from h)), (fun h => Bool.noConfusion (show false = true from h)), (fun h => Bool.noConfusion (show false = true from h)), (fun h => Bool.noConfusion (show false = true from h)), (fun h => Bool.noConfusion (show false = true from h)), (fun h => Bool.noConfusion (show false = true from h)), (fun h => Bool.noConfusion (show false = true from h)), (fun h => Bool.noConfusion (show false = true from h)), (fun h => Bool.noConfusion (show false = true from h)), (fun h => Bool.noConfusion (show false = true from h)), (fun h => Bool.noConfusion (show false = true from h)), (fun h => Bool.noConfusion (show false = true from h)), (fun h => Bool.noConfusion (show false = true from h)), (fun h => Bool.noConfusion (show false = true from h)), (fun h => Bool.noConfusion (show false = true from h)), (fun h => Bool.noConfusion (show false = true from h)), (fun h => Bool.noConfusion (show false = true from h)), trivial⟩ (fun h k => newer_trans h k) (pickD_stable _ ⟨vIs_st, vIs_st, vIs_st, vIs_st, vIs_st, vIs_st, vIs_st, vIs_st, vIs_st, vIs_st, vIs_st, vIs_st, vIs_st, vIs_st, vIs_st, vIs_st, vIs_st, vIs_st, vIs_st, vIs_st, vIs_st, vIs_st, vIs_st, vIs_st, vIs_st, vIs_st, vIs_st, vIs_st, vIs_st, vIs_st, vIs_st, vIs_st, vIs_st, vIs_st, vIs_st, vIs_st, vIs_st, vIs_st, vIs_st, vIs_st, vIs_st, vIs_st, vIs_st, vIs_st, vIs_st, vIs_st, vIs_st, vIs_st, vIs_st, vIs_st, vIs_st, vIs_st, vIs_st, trivial⟩) (Below.refl _ wr).drew (Below.refl _ _) ?_ ?_)
              · refine ⟨.inr ?_, .inr ?_, .inr ?_, .inr ?_, .inr ?_, .inr ?_, .inr ?_, .inr ?_, .inr ?_, .inr ?_, .inr ?_, .inr ?_, .inr ?_, .inr ?_, .inr ?_, .inr ?_, .inr ?_, .inr ?_, .inr ?_, .inr ?_, .inr ?_, .inr ?_, .inr ?_, .inr ?_, .inr ?_, .inr ?_, .inr ?_, .inr ?_, .inr ?_, .inr ?_, .inr ?_, .inr ?_, .inr ?_, .inr ?_, .inr ?_, .inr ?_, .inr ?_, .inr ?_, .inr ?_, .inr ?_, .inr ?_, .inr ?_, .inr ?_, .inr ?_, .inr ?_, .inr ?_, .inr ?_, .inr ?_, .inr ?_, .inr ?_, .inr ?_, .inr ?_, .inr ?_, trivial⟩
                · exact fun a W hG _ hO _ => kM 5 rfl (hO.slot 5 (by kernel_rfl)) rfl hG
                · exact fun a W hG _ hO _ => kM 15 rfl (hO.slot 15 (by kernel_rfl)) rfl hG
                · intro a W hG hR hO hp
                  have h83 : slotOf a 83 = .slice (some ⟨fb, fo, none⟩) n fc := hp.1
                  have h84 : slotOf a 84 = .int .i64 i := hp.2.1
                  refine kY (v := .pointer (some ⟨fb, fo + i * 2, none⟩)) hG rfl ?_
                  simp [slotOf] at h83 h84
                  simp [execOp, go_sem, h83, h84, hin]
                · intro a W hG hR hO hp
                  have h85 : slotOf a 85 = .pointer (some ⟨fb, fo + i * 2, none⟩) := hp.1
                  refine kY (v := .pointer (some ⟨fb, fo + i * 2, none⟩)) hG rfl ?_
                  simp [slotOf] at h85
                  simp [execOp, go_sem, h85]
                · intro a W hG hR hO hp
                  have h86 : slotOf a 86 = .pointer (some ⟨fb, fo + i * 2, none⟩) := hp.1
                  have c0 := keep_cell m0 hG
                  refine kY (v := vi m.1) hG rfl ?_
                  simp [slotOf] at h86
                  simp [execOp, go_sem, h86, c0]
                · exact fun a W hG _ hO _ => kM 11 rfl (hO.slot 11 (by kernel_rfl)) rfl hG
                · exact fun a W hG _ hO _ => kM 15 rfl (hO.slot 15 (by kernel_rfl)) rfl hG
                · intro a W hG hR hO hp
                  have h88 : slotOf a 88 = .slice (some ⟨lb, lo, none⟩) n d1 := hp.1
                  have h89 : slotOf a 89 = .int .i64 i := hp.2.1
                  refine kY (v := .pointer (some ⟨lb, lo + i * 4, none⟩)) hG rfl ?_
                  simp [slotOf] at h88 h89
                  simp [execOp, go_sem, h88, h89, hin]
                · intro a W hG hR hO hp
                  have h90 : slotOf a 90 = .pointer (some ⟨lb, lo + i * 4, none⟩) := hp.1
                  refine kY (v := .pointer (some ⟨lb, lo + i * 4, none⟩)) hG rfl ?_
                  simp [slotOf] at h90
                  simp [execOp, go_sem, h90]
                · intro a W hG hR hO hp
                  have h91 : slotOf a 91 = .pointer (some ⟨lb, lo + i * 4, none⟩) := hp.1
                  refine kY (v := .pointer (some ⟨lb, lo + i * 4, none⟩)) hG rfl ?_
                  simp [slotOf] at h91
                  simp [execOp, go_sem, h91]
                · intro a W hG hR hO hp
                  have h92 : slotOf a 92 = .pointer (some ⟨lb, lo + i * 4, none⟩) := hp.1
                  have c0 := keep_cell p0 hG
                  refine kY (v := vi p.x.lo) hG rfl ?_
                  simp [slotOf] at h92
                  simp [execOp, go_sem, h92, c0]
                · intro a W hG hR hO hp
                  have h87 : slotOf a 87 = vi m.1 := hp.1
                  have h93 : slotOf a 93 = vi p.x.lo := hp.2.1
                  refine kY (v := .bool false) hG rfl ?_
                  simp [slotOf] at h87 h93
                  simp [execOp, go_sem, h87, h93, c1x]
                · exact fun a W hG _ _ hp => kM 94 rfl hp.1 rfl hG
                · exact fun a W hG _ hO _ => kM 5 rfl (hO.slot 5 (by kernel_rfl)) rfl hG
                · exact fun a W hG _ hO _ => kM 15 rfl (hO.slot 15 (by kernel_rfl)) rfl hG
                · intro a W hG hR hO hp
                  have h96 : slotOf a 96 = .slice (some ⟨fb, fo, none⟩) n fc := hp.1
                  have h97 : slotOf a 97 = .int .i64 i := hp.2.1
                  refine kY (v := .pointer (some ⟨fb, fo + i * 2, none⟩)) hG rfl ?_
                  simp [slotOf] at h96 h97
                  simp [execOp, go_sem, h96, h97, hin]
                · intro a W hG hR hO hp
                  have h98 : slotOf a 98 = .pointer (some ⟨fb, fo + i * 2, none⟩) := hp.1
                  refine kY (v := .pointer (some ⟨fb, fo + i * 2, none⟩)) hG rfl ?_
                  simp [slotOf] at h98
                  simp [execOp, go_sem, h98]
                · intro a W hG hR hO hp
                  have h99 : slotOf a 99 = .pointer (some ⟨fb, fo + i * 2, none⟩) := hp.1
                  have c0 := keep_cell m0 hG
                  refine kY (v := vi m.1) hG rfl ?_
                  simp [slotOf] at h99
                  simp [execOp, go_sem, h99, c0]
                · exact fun a W hG _ hO _ => kM 11 rfl (hO.slot 11 (by kernel_rfl)) rfl hG
                · exact fun a W hG _ hO _ => kM 15 rfl (hO.slot 15 (by kernel_rfl)) rfl hG
                · intro a W hG hR hO hp
                  have h101 : slotOf a 101 = .slice (some ⟨lb, lo, none⟩) n d1 := hp.1
                  have h102 : slotOf a 102 = .int .i64 i := hp.2.1
                  refine kY (v := .pointer (some ⟨lb, lo + i * 4, none⟩)) hG rfl ?_
                  simp [slotOf] at h101 h102
                  simp [execOp, go_sem, h101, h102, hin]
                · intro a W hG hR hO hp
                  have h103 : slotOf a 103 = .pointer (some ⟨lb, lo + i * 4, none⟩) := hp.1
                  refine kY (v := .pointer (some ⟨lb, lo + i * 4, none⟩)) hG rfl ?_
                  simp [slotOf] at h103
                  simp [execOp, go_sem, h103]
                · intro a W hG hR hO hp
                  have h104 : slotOf a 104 = .pointer (some ⟨lb, lo + i * 4, none⟩) := hp.1
                  refine kY (v := .pointer (some ⟨lb, lo + i * 4 + 1, none⟩)) hG rfl ?_
                  simp [slotOf] at h104
                  simp [execOp, go_sem, h104]
                · intro a W hG hR hO hp
                  have h105 : slotOf a 105 = .pointer (some ⟨lb, lo + i * 4 + 1, none⟩) := hp.1
                  have c0 := keep_cell p1 hG
                  refine kY (v := vi p.x.hi) hG rfl ?_
                  simp [slotOf] at h105
                  simp [execOp, go_sem, h105, c0]
                · intro a W hG hR hO hp
                  have h100 : slotOf a 100 = vi m.1 := hp.1
                  have h106 : slotOf a 106 = vi p.x.hi := hp.2.1
                  refine kY (v := .bool false) hG rfl ?_
                  simp [slotOf] at h100 h106
                  simp [execOp, go_sem, h100, h106, c2x]
                · intro a W hG hR hO hp
                  have h95 : slotOf a 95 = .bool false := hp.1
                  have h107 : slotOf a 107 = .bool false := hp.2.1
                  refine kY (v := .bool false) hG rfl ?_
                  simp [slotOf] at h95 h107
                  simp [execOp, go_sem, h95, h107]
                · exact fun a W hG _ _ hp => kM 108 rfl hp.1 rfl hG
                · exact fun a W hG _ hO _ => kM 5 rfl (hO.slot 5 (by kernel_rfl)) rfl hG
                · exact fun a W hG _ hO _ => kM 15 rfl (hO.slot 15 (by kernel_rfl)) rfl hG
                · intro a W hG hR hO hp
                  have h110 : slotOf a 110 = .slice (some ⟨fb, fo, none⟩) n fc := hp.1
                  have h111 : slotOf a 111 = .int .i64 i := hp.2.1
                  refine kY (v := .pointer (some ⟨fb, fo + i * 2, none⟩)) hG rfl ?_
                  simp [slotOf] at h110 h111
                  simp [execOp, go_sem, h110, h111, hin]
                · intro a W hG hR hO hp
                  have h112 : slotOf a 112 = .pointer (some ⟨fb, fo + i * 2, none⟩) := hp.1
                  refine kY (v := .pointer (some ⟨fb, fo + i * 2 + 1, none⟩)) hG rfl ?_
                  simp [slotOf] at h112
                  simp [execOp, go_sem, h112]
                · intro a W hG hR hO hp
                  have h113 : slotOf a 113 = .pointer (some ⟨fb, fo + i * 2 + 1, none⟩) := hp.1
                  have c0 := keep_cell m1 hG
                  refine kY (v := vi m.2) hG rfl ?_
                  simp [slotOf] at h113
                  simp [execOp, go_sem, h113, c0]
                · exact fun a W hG _ hO _ => kM 11 rfl (hO.slot 11 (by kernel_rfl)) rfl hG
                · exact fun a W hG _ hO _ => kM 15 rfl (hO.slot 15 (by kernel_rfl)) rfl hG
                · intro a W hG hR hO hp
                  have h115 : slotOf a 115 = .slice (some ⟨lb, lo, none⟩) n d1 := hp.1
                  have h116 : slotOf a 116 = .int .i64 i := hp.2.1
                  refine kY (v := .pointer (some ⟨lb, lo + i * 4, none⟩)) hG rfl ?_
                  simp [slotOf] at h115 h116
                  simp [execOp, go_sem, h115, h116, hin]
                · intro a W hG hR hO hp
                  have h117 : slotOf a 117 = .pointer (some ⟨lb, lo + i * 4, none⟩) := hp.1
                  refine kY (v := .pointer (some ⟨lb, lo + i * 4 + 2, none⟩)) hG rfl ?_
                  simp [slotOf] at h117
                  simp [execOp, go_sem, h117]
                · intro a W hG hR hO hp
                  have h118 : slotOf a 118 = .pointer (some ⟨lb, lo + i * 4 + 2, none⟩) := hp.1
                  refine kY (v := .pointer (some ⟨lb, lo + i * 4 + 2, none⟩)) hG rfl ?_
                  simp [slotOf] at h118
                  simp [execOp, go_sem, h118]
                · intro a W hG hR hO hp
                  have h119 : slotOf a 119 = .pointer (some ⟨lb, lo + i * 4 + 2, none⟩) := hp.1
                  have c0 := keep_cell p2 hG
                  refine kY (v := vi p.y.lo) hG rfl ?_
                  simp [slotOf] at h119
                  simp [execOp, go_sem, h119, c0]
                · intro a W hG hR hO hp
                  have h114 : slotOf a 114 = vi m.2 := hp.1
                  have h120 : slotOf a 120 = vi p.y.lo := hp.2.1
                  refine kY (v := .bool false) hG rfl ?_
                  simp [slotOf] at h114 h120
                  simp [execOp, go_sem, h114, h120, c3x]
                · intro a W hG hR hO hp
                  have h109 : slotOf a 109 = .bool false := hp.1
                  have h121 : slotOf a 121 = .bool false := hp.2.1
                  refine kY (v := .bool false) hG rfl ?_
                  simp [slotOf] at h109 h121
                  simp [execOp, go_sem, h109, h121]
                · exact fun a W hG _ _ hp => kM 122 rfl hp.1 rfl hG
                · exact fun a W hG _ hO _ => kM 5 rfl (hO.slot 5 (by kernel_rfl)) rfl hG
                · exact fun a W hG _ hO _ => kM 15 rfl (hO.slot 15 (by kernel_rfl)) rfl hG
                · intro a W hG hR hO hp
                  have h124 : slotOf a 124 = .slice (some ⟨fb, fo, none⟩) n fc := hp.1
                  have h125 : slotOf a 125 = .int .i64 i := hp.2.1
                  refine kY (v := .pointer (some ⟨fb, fo + i * 2, none⟩)) hG rfl ?_
                  simp [slotOf] at h124 h125
                  simp [execOp, go_sem, h124, h125, hin]
                · intro a W hG hR hO hp
                  have h126 : slotOf a 126 = .pointer (some ⟨fb, fo + i * 2, none⟩) := hp.1
                  refine kY (v := .pointer (some ⟨fb, fo + i * 2 + 1, none⟩)) hG rfl ?_
                  simp [slotOf] at h126
                  simp [execOp, go_sem, h126]
                · intro a W hG hR hO hp
                  have h127 : slotOf a 127 = .pointer (some ⟨fb, fo + i * 2 + 1, none⟩) := hp.1
                  have c0 := keep_cell m1 hG
                  refine kY (v := vi m.2) hG rfl ?_
                  simp [slotOf] at h127
                  simp [execOp, go_sem, h127, c0]
                · exact fun a W hG _ hO _ => kM 11 rfl (hO.slot 11 (by kernel_rfl)) rfl hG
                · exact fun a W hG _ hO _ => kM 15 rfl (hO.slot 15 (by kernel_rfl)) rfl hG
                · intro a W hG hR hO hp
                  have h129 : slotOf a 129 = .slice (some ⟨lb, lo, none⟩) n d1 := hp.1
                  have h130 : slotOf a 130 = .int .i64 i := hp.2.1
                  refine kY (v := .pointer (some ⟨lb, lo + i * 4, none⟩)) hG rfl ?_
                  simp [slotOf] at h129 h130
                  simp [execOp, go_sem, h129, h130, hin]
                · intro a W hG hR hO hp
                  have h131 : slotOf a 131 = .pointer (some ⟨lb, lo + i * 4, none⟩) := hp.1
                  refine kY (v := .pointer (some ⟨lb, lo + i * 4 + 2, none⟩)) hG rfl ?_
                  simp [slotOf] at h131
                  simp [execOp, go_sem, h131]
                · intro a W hG hR hO hp
                  have h132 : slotOf a 132 = .pointer (some ⟨lb, lo + i * 4 + 2, none⟩) := hp.1
                  refine kY (v := .pointer (some ⟨lb, lo + i * 4 + 2 + 1, none⟩)) hG rfl ?_
                  simp [slotOf] at h132
                  simp [execOp, go_sem, h132]
                · intro a W hG hR hO hp
                  have h133 : slotOf a 133 = .pointer (some ⟨lb, lo + i * 4 + 2 + 1, none⟩) := hp.1
                  have c0 := keep_cell p3 hG
                  refine kY (v := vi p.y.hi) hG rfl ?_
                  simp [slotOf] at h133
                  simp [execOp, go_sem, h133, c0]
                · intro a W hG hR hO hp
                  have h128 : slotOf a 128 = vi m.2 := hp.1
                  have h134 : slotOf a 134 = vi p.y.hi := hp.2.1
                  refine kY (v := .bool false) hG rfl ?_
                  simp [slotOf] at h128 h134
                  simp [execOp, go_sem, h128, h134, c4x]
              · intro wz hG hR
                rintro _ rfl _ rfl _ rfl _ rfl _ rfl _ rfl _ rfl _ rfl _ rfl _ rfl _ rfl _ rfl _ rfl _ rfl _ rfl _ rfl _ rfl _ rfl _ rfl _ rfl _ rfl _ rfl _ rfl _ rfl _ rfl _ rfl _ rfl _ rfl _ rfl _ rfl _ rfl _ rfl _ rfl _ rfl _ rfl _ rfl _ rfl _ rfl _ rfl _ rfl _ rfl _ rfl _ rfl _ rfl _ rfl _ rfl _ rfl _ rfl _ rfl _ rfl _ rfl _ rfl _ rfl
                change wpList _ _ _ _ _ _
                simp only [Act.put, List.setIfInBounds_toArray, List.set_cons_zero, List.set_cons_succ, List.drop_succ_cons, List.drop_zero]
                have HNY := Lib.hid (newer_trans HNX.out hG)
                clear hG hR m0 m1 p0 p1 p2 p3 c1x c2x c3x c4x
                go_wp2_with fail
                refine ⟨⟨i + 1, by omega, rfl, HNY.out⟩, ?_⟩
                simp [intOf]
                omega
            case neg =>
              obtain rfl : i = n := by omega
              have hge : ¬ (i : Int) < i := by omega
              have HN9 := Lib.hid (newer_trans HN3.out (newer_trans H6.out.1 (newer_trans H8.out.2 (newer_trans H9.out hnx))))
              clear hnx hlt
              rcases HCS.out with ⟨rfl, h2⟩ | ⟨rfl, h2, h3⟩
              · have hm0 : mT = 0 := by rw [HMT.out, h2]; rfl
                have hmb : ((mT : Int) == 0) = true := by simp [hm0]
                have hmb2 : (mT == 0) = true := by simp [hm0]
                clear hm0 h2 HCS
                go_wp2_with fail
                refine (awake_any _).mono ?_
                rintro e wk ⟨rfl, hb⟩
                have HK := Lib.hid (newer_trans (newer_trans HN9.out (newer_refl _)) hb)
                clear hb
                go_wp2_with fail
                go_ret
                exact ⟨rfl, HK.out⟩
              · have hm60 : (mT : Int) ≤ 60 := by
                  have h4 : mT ≤ 60 := by rw [HMT.out, h2]; exact h3
                  omega
                have HLS : Hid (∀ W, newer w8 W → Calls Try.prog 40 #[.slice A3 mT c3, .slice LA l.length lc] W fun e w' => e = .returned (.tuple #[.bool true, .bool true]) ∧ newer W w') := Lib.hid (fun W hW => by
                  have hxT : ∀ x ∈ xs, x.l ∈ turnsN { y.s with reads := rd } := fun x hx => by rw [← h2, ← HXS.out.1]; exact List.mem_map.2 ⟨x, hx, rfl⟩
                  have hll := turnsN_len HX.out.1 HX.out.2.2
                  have h := listed_any xs l A3 LA c3 lc W (by rw [hll]; exact Nat.le_trans (List.length_filter_le _ _) (by have := HX.out.1.few; omega)) (by rw [HXS.out.2.1, ← HMT.out]; omega) (fun x hx => by rw [turnsN_len HX.out.1 (hxT x hx), hll]) (by rw [HXS.out.1, h2]; exact turnsN_sorted HX.out.1) (HXS.out.2.2.ok.next hW) ((HLD.out.below (newer_trans H6.out.1 (newer_trans H8.out.2 hW))).more (newer_trans H6.out.1 (newer_trans H8.out.2 hW)).size)
                  rw [HXS.out.1, h2, decide_eq_true HX.out.2.2, HXS.out.2.1, ← HMT.out] at h
                  exact h)
                clear h2 h3 HCS
                go_wp2_with fail
                refine (HLS.out _ (newer_trans H9.out HNX.out)).mono ?_
                rintro e wl ⟨rfl, hb⟩
                have HNL := Lib.hid (newer_trans HN9.out hb)
                clear hb HLS
                go_wp2_with fail
                refine (awake_any _).mono ?_
                rintro e wk ⟨rfl, hb⟩
                have HK := Lib.hid (newer_trans (HNL.out) hb)
                clear hb
                go_wp2_with fail
                go_ret
                exact ⟨rfl, HK.out⟩

end Go.Proofs.Ytpmafnifgegfbaa
