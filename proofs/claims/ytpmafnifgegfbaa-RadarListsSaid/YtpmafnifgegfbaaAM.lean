/- RadarWhole walked: it returns true, and leaves what was there. -/
import Derived.Test.YtpmafnifgegfbaaAL
import Derived.Test.YtpmafnifgegfbaaPA
namespace Go.Proofs.Ytpmafnifgegfbaa
open Go.RowKit Go.Shelf Go.Deep

theorem posE_len (T : List (List (Option Int))) : posE T = if 60 < T.length then 3 else if T.length = 0 then 9 else 0 := by
  unfold posE
  by_cases h : T = []
  · rw [h]; rfl
  · have : T.length ≠ 0 := fun e => h (List.eq_nil_of_length_eq_zero e)
    rw [if_neg h, if_neg this]
theorem turL_mem : ∀ (ts : List Tl) (ks : List (Option Int)) (a : Int), a ∈ turL ts ks → ∃ (j : Nat) (t : Tl), ts[j]? = some t ∧ t.turn ≠ 0 ∧ a = (ks.getD j none).getD 0
  | [], _, a, h => by simp [turL] at h
  | u :: ts, [], a, h => by simp [turL] at h
  | u :: ts, o :: ks, a, h => by
    simp only [turL] at h
    split at h
    · obtain ⟨j, t, h1, h2, h3⟩ := turL_mem ts ks a h
      exact ⟨j + 1, t, h1, h2, by simpa using h3⟩
    · rename_i hu
      rcases List.mem_cons.1 h with h | h
      · exact ⟨0, u, rfl, hu, by simpa using h⟩
      · obtain ⟨j, t, h1, h2, h3⟩ := turL_mem ts ks a h
        exact ⟨j + 1, t, h1, h2, by simpa using h3⟩
theorem turnsN_few {s : Sd} (h : SdOk s) {l : List Int} (hl : l ∈ turnsN s) {a : Int} (ha : a ∈ l) : -720 ≤ a ∧ a ≤ 720 := by
  obtain ⟨ks, f, h1, _, h3, h4, rfl⟩ := (mem_turnsN h).1 hl
  obtain ⟨j, t, ht, hT, rfl⟩ := turL_mem _ _ _ ha
  obtain ⟨q, hq⟩ := h3 j t ht hT
  rw [hq]
  exact agree_few h h4 ht hT hq
theorem turnLs_mem {s : Sd} {l : List Int} (hl : l ∈ turnLs s) : SdOk s ∧ l ∈ turnsN s := by
  unfold turnLs at hl
  split at hl
  · rename_i h0
    refine ⟨err_iff.1 ?_, hl⟩
    by_cases e : errN s = 0
    · exact e
    · unfold turnE at h0
      rw [if_neg e] at h0
      exact h0
  · cases hl
/-- A read that is one Turn greater: the same is known, one less in each list. -/
theorem whole_laws {s : Sd} (h : SdOk s) {k : Nat} {t : Tl} (ht : s.tools[k]? = some t) (hT : t.turn ≠ 0) (hr : readAt s k + t.turn ≤ 1000) :
    learnE (upS s k t.turn) = learnE s ∧ learnL (upS s k t.turn) = learnL s ∧ turnE (upS s k t.turn) = turnE s ∧ turnLs (upS s k t.turn) = (turnLs s).map (decL (placeN s.tools k)) ∧ ∀ l ∈ turnLs s, placeN s.tools k < l.length ∧ ∀ a ∈ l, -720 ≤ a ∧ a ≤ 720 := by
  have hT0 : 0 < t.turn := by have := (h.tool t (List.mem_of_getElem? ht)).turn; omega
  have h' := upS_ok h ht hr
  have he := err_iff.2 h
  have he' := err_iff.2 h'
  have hok : okS (upS s k t.turn) (freeL (upS s k t.turn)) = okS s (freeL s) := same_ok (by have := h.spots; omega) rfl fun f => up_free h ht hT0
  have hle : learnE (upS s k t.turn) = learnE s := by unfold learnE; rw [if_pos he, if_pos he', hok]
  have htn := up_turns h ht hT0 hr
  have hln : (allT (upS s k t.turn)).length = (allT s).length := by
    have h1 := congrArg List.length htn
    unfold turnsN at h1
    rw [List.length_map, List.length_map, List.length_map] at h1
    exact h1
  have hte : turnE (upS s k t.turn) = turnE s := by unfold turnE; rw [if_pos he, if_pos he', posE_len, posE_len, hln]
  refine ⟨hle, ?_, hte, ?_, fun l hl => ⟨up_place h ht hT0 (turnLs_mem hl).2, fun a ha => turnsN_few h (turnLs_mem hl).2 ha⟩⟩
  · unfold learnL
    rw [hle]
    split
    · rename_i h0
      have hex : ∃ f, Agree s (freeL s) f := by
        refine (ok_iff (by have := h.spots; omega)).1 ?_
        unfold learnE at h0
        rw [if_pos he] at h0
        split at h0
        · assumption
        · exact absurd h0 (by decide)
      unfold knL knK
      refine List.map_congr_left fun i hi => ?_
      exact same_learn (s := s) (s' := upS s k t.turn) rfl (fun f => up_free h ht hT0) hex (List.mem_range.1 hi)
    · rfl
  · unfold turnLs
    rw [hte]
    split
    · exact htn
    · rfl
theorem own_setAt {w : World} {base g n c size off : Nat} {e : TypeId} {xs : List Value} {u : Value} (h : w.ownsRow base e size (.slice (some ⟨g, 0, none⟩) n c) n xs) : (w.setCell ⟨g, off, none⟩ u).ownsRow base e size (.slice (some ⟨g, 0, none⟩) n c) n (xs.set off u) := by
  rcases h.2 with ⟨h0, _⟩ | ⟨g2, cap, cur, hv, hb, hg, hnc, hcm, hcs, htk⟩
  · cases h0
  · injection hv with e1 _ e3
    injection e1 with e1
    injection e1 with e1
    subst e1
    refine ⟨by rw [List.length_set]; exact h.1, .inr ⟨g, cap, cur.setIfInBounds off u, by rw [e3], hb, Whole.set hg off u, hnc, hcm, by simpa using hcs, ?_⟩⟩
    rw [Array.toList_setIfInBounds, List.take_set, htk]
theorem own_cells {w : World} {base g n c size : Nat} {e : TypeId} {xs : List Value} (h : w.ownsRow base e size (.slice (some ⟨g, 0, none⟩) n c) n xs) : ∃ cs, Whole w g e cs := by
  rcases h.2 with ⟨h0, _⟩ | ⟨g2, cap, cur, hv, hb, hg, _⟩
  · cases h0
  · injection hv with e1 _ e3
    injection e1 with e1
    injection e1 with e1
    subst e1
    exact ⟨_, hg⟩
theorem set_rd (l : List Int) (i : Nat) (a : Int) : (l.flatMap intL).set i (vi a) = (l.set i a).flatMap intL := by rw [map_vi, map_vi, List.map_set]
theorem placeN_le (ts : List Tl) (k : Nat) : placeN ts k ≤ k := by
  unfold placeN
  refine Nat.le_trans (List.length_filter_le _ _) ?_
  rw [List.length_take]
  exact Nat.min_le_left _ _
theorem turnLs_few (s : Sd) : (turnLs s).length ≤ 60 := by
  unfold turnLs
  split
  · rename_i h0
    unfold turnE at h0
    split at h0
    · rw [List.length_map]; exact (posE_ok h0).1
    · rename_i h1; exact absurd h0 h1
  · exact Nat.zero_le _
theorem learnL_len (s : Sd) : (learnL s).length ≤ s.spots.length := by
  unfold learnL
  split
  · exact Nat.le_of_eq (knK_len s _)
  · exact Nat.zero_le _
/-- Survey, its value spelled. -/
theorem survey_any (y : Sm) (w : World) (hok : SmOk y w) (few : SmFew y) : Calls Try.prog 21 #[smV y] w fun e w' => ∃ sa sc ta tc ra rc, e = .returned (.agg #[.slice sa y.s.spots.length sc, vi y.s.strain, .slice ta y.s.tools.length tc, vi y.s.day, .slice ra y.s.reads.length rc]) ∧ SvOwn ⟨y.s, sa, sc, ta, tc, ra, rc⟩ w.heap.size w' ∧ newer w w' := by
  refine (lawSurvey y w hok few).mono ?_
  rintro e w' ⟨⟨zs, sa, sc, ta, tc, ra, rc⟩, rfl, hz, ho, hb⟩
  have hz : zs = y.s := hz
  subst hz
  exact ⟨sa, sc, ta, tc, ra, rc, rfl, ho, hb⟩
set_option maxRecDepth 100000 in
set_option maxHeartbeats 4000000 in
theorem radarWhole_walk (y : Sm) (an : Nat) (w : World) (hok : SmOk y w) (han : an ≤ 255) : Calls Try.prog 8 #[smV y, .int .u8 (an : Int)] w fun e w' => e = .returned (.bool true) ∧ newer w w' := by
  have hnw := newer_allocH w (.cells (smC y) 26)
  have hxb := Whole.made w 26 (smC y)
  have HRD := Lib.hid (ready_any y _ (hok.next hnw))
  have HN0 := Lib.hid (And.intro hnw hxb)
  have HOK := Lib.hid hok
  have x0 := hxb.at 0 (v := .slice y.sa y.s.spots.length y.sc) rfl
  have x1 := hxb.at 1 (v := vi y.s.strain) rfl
  have x2 := hxb.at 2 (v := .slice y.ta y.s.tools.length y.tc) rfl
  have x3 := hxb.at 3 (v := vi y.s.day) rfl
  have x4 := hxb.at 4 (v := .slice y.ra y.s.reads.length y.rc) rfl
  clear hok hnw hxb
  cases ht : readyB y.s with
  | false =>
    rw [ht] at HRD
    clear ht
    go_enter Try.func8, Try.ntmps8
    go_wp2_with fail
    refine (HRD.out).mono ?_
    rintro e w1 ⟨rfl, hb1⟩
    have HN := Lib.hid (newer_trans HN0.out.1 hb1)
    clear hb1 HRD HN0 x0 x1 x2 x3 x4
    go_wp2_with fail
    refine (awake_any _).mono ?_
    rintro e wk ⟨rfl, hb⟩
    have HK := Lib.hid (newer_trans (HN.out) hb)
    clear hb
    go_wp2_with fail
    go_ret
    exact ⟨rfl, HK.out⟩
  | true =>
    have HFW := Lib.hid (ready_parts ht).1
    have HSD := Lib.hid (ready_parts ht).2.1
    have hn8 := HSD.out.few
    have HRL := Lib.hid HSD.out.reads
    rw [ht] at HRD
    clear ht
    by_cases htl : y.s.tools.length = 0
    case pos =>
      have htb : ((y.s.tools.length : Int) == 0) = true := by simp [htl]
      have htb2 : (y.s.tools.length == 0) = true := by simp [htl]
      clear htl
      go_enter Try.func8, Try.ntmps8
      go_wp2_with fail
      refine (HRD.out).mono ?_
      rintro e w1 ⟨rfl, hb1⟩
      have x2' := (HN0.out.2.below hb1 HN0.out.2.lt).at 2 (v := .slice y.ta y.s.tools.length y.tc) rfl
      have HN := Lib.hid (newer_trans HN0.out.1 hb1)
      clear hb1 HRD HN0 x0 x1 x2 x3 x4
      go_wp2_with fail
      refine (awake_any _).mono ?_
      rintro e wk ⟨rfl, hb⟩
      have HK := Lib.hid (newer_trans (HN.out) hb)
      clear hb
      go_wp2_with fail
      go_ret
      exact ⟨rfl, HK.out⟩
    case neg =>
      have hl0 : 0 < y.s.tools.length := by omega
      obtain ⟨k, hk⟩ : ∃ k, k = an % y.s.tools.length := ⟨_, rfl⟩
      have hkl : k < y.s.tools.length := by rw [hk]; exact Nat.mod_lt _ hl0
      have ek : (an : Int).tmod y.s.tools.length = k := by rw [hk, Int.tmod_eq_emod_of_nonneg (by omega)]; exact (Int.natCast_emod _ _).symm
      have ew : IntKind.i64.wrap (an : Int) = an := IntWalk.i64_in _ (by omega)
      obtain ⟨t, hkt⟩ : ∃ t, y.s.tools[k]? = some t := ⟨_, List.getElem?_eq_getElem hkl⟩
      obtain ⟨r, hkr⟩ : ∃ r, y.s.reads[k]? = some r := ⟨_, List.getElem?_eq_getElem (by have := HRL.out; omega)⟩
      have HK := Lib.hid (And.intro hkl (And.intro hkt hkr))
      have htl2 : ¬ (y.s.tools.length : Int) = 0 := by omega
      clear hk
      go_enter Try.func8, Try.ntmps8
      go_wp2_with fail
      refine (HRD.out).mono ?_
      rintro e w1 ⟨rfl, hb1⟩
      have hw := HN0.out.2.below hb1 HN0.out.2.lt
      have hn1 := newer_trans HN0.out.1 hb1
      have ho1 := HOK.out.next hn1
      have HB := Lib.hid hw
      have HN := Lib.hid hn1
      clear hb1 HRD HN0 x0 x1 x2 x3 x4
      have x0 := hw.at 0 (v := .slice y.sa y.s.spots.length y.sc) rfl
      have x1 := hw.at 1 (v := vi y.s.strain) rfl
      have x2 := hw.at 2 (v := .slice y.ta y.s.tools.length y.tc) rfl
      have x3 := hw.at 3 (v := vi y.s.day) rfl
      have x4 := hw.at 4 (v := .slice y.ra y.s.reads.length y.rc) rfl
      obtain ⟨tb, tof, et, htb, t0, t1, t2, t3, t4, t5, t6⟩ := row7 ho1.tl hkt
      obtain ⟨rb, ro, er, hrb, r0⟩ := row1 ho1.rd hkr
      rw [et] at x2
      rw [er] at x4
      have hki : (k : Int) < y.s.tools.length := by omega
      have hkri : (k : Int) < y.s.reads.length := by have := HRL.out; omega
      have hTb : t.turn = 0 ∨ (2 ≤ t.turn ∧ t.turn ≤ 200) := (HSD.out.tool t (List.mem_of_getElem? hkt)).turn
      have hrb1 := (HSD.out.read r (List.mem_of_getElem? hkr)).1
      have hrb2 := (HSD.out.read r (List.mem_of_getElem? hkr)).2
      obtain ⟨T, hT⟩ : ∃ q, q = t.turn := ⟨_, rfl⟩
      rw [← hT] at t3 hTb
      have HT := Lib.hid hT
      have HR1 := Lib.hid ho1
      have HET := Lib.hid et
      clear hw hn1 ho1 t0 t1 t2 t4 t5 t6 hkt hkr hT et er
      by_cases h0 : T = 0
      case pos =>
        subst h0
        go_wp2_with fail
        refine (awake_any _).mono ?_
        rintro e wk ⟨rfl, hb⟩
        have HK := Lib.hid (newer_trans (HN.out) hb)
        clear hb
        go_wp2_with fail
        go_ret
        exact ⟨rfl, HK.out⟩
      case neg =>
        have hTp : 2 ≤ T := by omega
        have hTq : T ≤ 200 := by omega
        have hT0 : (T == 0) = false := by simpa using h0
        have HNZ := Lib.hid h0
        clear hTb h0
        by_cases h1 : 1000 < r + T
        case pos =>
          go_wp2_with fail
          refine (awake_any _).mono ?_
          rintro e wk ⟨rfl, hb⟩
          have HK := Lib.hid (newer_trans (HN.out) hb)
          clear hb
          go_wp2_with fail
          go_ret
          exact ⟨rfl, HK.out⟩
        case neg =>
          have HLAW := Lib.hid (whole_laws HSD.out HK.out.2.1 (by rw [← HT.out]; exact HNZ.out) (by rw [← HT.out]; unfold readAt; rw [List.getD_eq_getElem?_getD, HK.out.2.2]; exact Int.not_lt.1 h1))
          go_wp2_with fail
          clear t3 r0
          go_loopw [7, 8] (fun s7 s8 wx => ∃ i : Nat, i ≤ k ∧ s8 = vi i ∧ s7 = vi (placeN y.s.tools i : Nat) ∧ w1 = wx) (fun _ s8 _ => k - (intOf s8).toNat)
          case atStart => exact ⟨0, Nat.zero_le _, rfl, rfl, rfl⟩
          case round =>
            obtain ⟨i, hi, rfl, rfl, hwx⟩ := hrel
            subst hwx
            by_cases hlt : i < k
            case pos =>
              have hik : (i : Int) < k := by omega
              have hit : (i : Int) < y.s.tools.length := by omega
              obtain ⟨u, hu⟩ : ∃ u, y.s.tools[i]? = some u := ⟨_, List.getElem?_eq_getElem (by omega)⟩
              obtain ⟨tb2, tof2, et2, _, _, _, _, u3, _, _, _⟩ := row7 HR1.out.tl hu
              rw [HET.out] at et2
              injection et2 with et2
              injection et2 with eb eo
              subst eb
              subst eo
              have HPS := Lib.hid (placeN_succ hu)
              have hpl := placeN_le y.s.tools i
              obtain ⟨pl, hpl2⟩ : ∃ q, q = placeN y.s.tools i := ⟨_, rfl⟩
              rw [← hpl2] at hpl HPS
              rw [← hpl2]
              clear hpl2 hu
              by_cases hu0 : u.turn = 0
              · have HQ := Lib.hid (show placeN y.s.tools (i + 1) = pl by rw [HPS.out, if_pos hu0, Nat.add_zero])
                have hub : (u.turn != 0) = false := by simp [hu0]
                have hub2 : (u.turn == 0) = true := by simp [hu0]
                clear hu0
                go_wp2_with fail
                refine ⟨⟨i + 1, by omega, rfl, by rw [HQ.out], trivial⟩, ?_⟩
                simp [intOf]
                omega
              · have HQ := Lib.hid (show placeN y.s.tools (i + 1) = pl + 1 by rw [HPS.out, if_neg hu0])
                have hub : (u.turn != 0) = true := by simp [bne, hu0]
                have hub2 : (u.turn == 0) = false := by simpa using hu0
                clear hu0
                go_wp2_with fail
                refine ⟨⟨i + 1, by omega, rfl, by rw [HQ.out]; rfl, trivial⟩, ?_⟩
                simp [intOf]
                omega
            case neg =>
              obtain rfl : i = k := by omega
              clear x0 x1 x2 x3 x4
              have x0 := HB.out.at 0 (v := .slice y.sa y.s.spots.length y.sc) rfl
              have x1 := HB.out.at 1 (v := vi y.s.strain) rfl
              have x2 := HB.out.at 2 (v := .slice y.ta y.s.tools.length y.tc) rfl
              have x3 := HB.out.at 3 (v := vi y.s.day) rfl
              have x4 := HB.out.at 4 (v := .slice y.ra y.s.reads.length y.rc) rfl
              have HSV := Lib.hid (survey_any y w1 HR1.out HFW.out)
              have HRP := Lib.hid hkri
              have HPL := Lib.hid (placeN_le y.s.tools i)
              obtain ⟨pl, hpl⟩ : ∃ q, q = placeN y.s.tools i := ⟨_, rfl⟩
              rw [← hpl] at HLAW HPL
              rw [← hpl]
              clear hpl
              go_wp2_with fail
              refine (HSV.out).mono ?_
              rintro e w2 ⟨sa, sc, ta, tc, ra, rc, rfl, ho, hn2⟩
              have HSO := Lib.hid (And.intro ho hn2)
              clear ho hn2 x0 x1 x2 x3 x4 HSV
              go_upto_region 14 with fail
              obtain ⟨xb, hxb⟩ : ∃ q, q = w2.heap.size := ⟨_, rfl⟩
              rw [← hxb]
              refine genQ (fun X => newer w2 X ∧ Whole X xb 40 #[.slice sa y.s.spots.length sc, vi y.s.strain, .slice ta y.s.tools.length tc, vi y.s.day, .slice ra y.s.reads.length rc]) ⟨newer_allocH _ _, by rw [hxb]; exact Whole.made _ _ _⟩ ?_
              rintro w3 ⟨hn3, hbx⟩
              have hso := HSO.out.1.next hn3
              obtain ⟨g, rfl, hg⟩ := own_some hso.rd (show 0 < y.s.reads.length by have := HRP.out; omega)
              obtain ⟨cs, hcs⟩ := own_cells hso.rd
              obtain ⟨g', o', eg, _, r0⟩ := row1 (row_of_own (enc := intL) (size := 1) (by decide) (fun _ => rfl) hso.rd) HK.out.2.2
              injection eg with eg
              injection eg with e1 e2
              subst e1
              subst e2
              rw [Nat.zero_add] at r0
              have rf := hcs.free i
              have z4 := hbx.at 4 (v := .slice (some ⟨g, 0, none⟩) y.s.reads.length rc) rfl
              have hn13 := newer_trans HSO.out.2 hn3
              have H3 := Lib.hid (And.intro hn13 (And.intro hbx (And.intro hso (And.intro hcs hg))))
              have HXB := Lib.hid (show w1.heap.size ≤ xb by rw [hxb]; exact HSO.out.2.size)
              clear hn3 hbx hso hcs hg hn13 hxb
              go_upto_region 15 with fail
              have hrt : readAt y.s i = r := by unfold readAt; rw [List.getD_eq_getElem?_getD, HK.out.2.2]; rfl
              obtain ⟨X, hX⟩ : ∃ X : Sm, X = ⟨upS y.s i T, sa, sc, ta, tc, some ⟨g, 0, none⟩, rc⟩ := ⟨_, rfl⟩
              have hXs : X.s = upS y.s i T := by rw [hX]
              have hsx : smV X = .agg #[.slice sa y.s.spots.length sc, vi y.s.strain, .slice ta y.s.tools.length tc, vi y.s.day, .slice (some ⟨g, 0, none⟩) y.s.reads.length rc] := by
                rw [hX]
                show Value.agg #[_, _, _, _, .slice _ (List.length (y.s.reads.set i _)) _] = _
                rw [List.length_set]
                rfl
              refine genQ (fun Y => newer w1 Y ∧ Whole Y xb 40 #[.slice sa y.s.spots.length sc, vi y.s.strain, .slice ta y.s.tools.length tc, vi y.s.day, .slice (some ⟨g, 0, none⟩) y.s.reads.length rc] ∧ SmOk X Y) ⟨?_, ?_, ?_⟩ ?_
              · exact H3.out.1.setCell (p := ⟨g, i, none⟩) H3.out.2.2.2.2 _
              · exact H3.out.2.1.far (p := ⟨g, i, none⟩) (fun e => own_ne H3.out.2.2.1.rd H3.out.2.1 (by decide) (by rw [e]; rfl)) _
              · have hfar : ∀ {e : TypeId} {q n : Nat} {v : Value} {ys : List Value}, w3.ownsRow w1.heap.size e q v n ys → e ≠ 3 → (w3.setCell ⟨g, i, none⟩ (vi (r + T))).ownsRow w1.heap.size e q v n ys := fun hv hne => own_set hv (fun e2 => own_own_ne hv H3.out.2.2.1.rd hne g e2 rfl) _
                have hr := own_setAt (off := i) (u := vi (r + T)) H3.out.2.2.1.rd
                rw [hX]
                refine ⟨row_of_own (enc := spL) (size := 4) (by decide) (fun _ => rfl) (hfar H3.out.2.2.1.sp (by decide)), row_of_own (enc := tlL) (size := 7) (by decide) (fun _ => rfl) (hfar H3.out.2.2.1.tl (by decide)), ?_⟩
                have hl : (y.s.reads.set i (r + T)).length = y.s.reads.length := List.length_set
                have hr2 : (w3.setCell ⟨g, i, none⟩ (vi (r + T))).ownsRow w1.heap.size 3 1 (.slice (some ⟨g, 0, none⟩) (y.s.reads.set i (r + T)).length rc) (y.s.reads.set i (r + T)).length ((y.s.reads.set i (r + T)).flatMap intL) := by
                  rw [hl, ← set_rd]
                  exact hr
                show Row intL 1 _ _ _ (y.s.reads.set i (readAt y.s i + T))
                rw [hrt]
                exact row_of_own (enc := intL) (size := 1) (by decide) (fun _ => rfl) hr2
              rintro w4 ⟨hn4, hb4, hx4⟩
              have hlw := HLAW.out
              rw [← HT.out] at hlw
              obtain ⟨LL, hLL⟩ : ∃ q, q = learnL y.s := ⟨_, rfl⟩
              obtain ⟨E, hE⟩ : ∃ q, q = learnE y.s := ⟨_, rfl⟩
              obtain ⟨F, hF⟩ : ∃ q, q = turnE y.s := ⟨_, rfl⟩
              obtain ⟨TT, hTT⟩ : ∃ q, q = turnLs y.s := ⟨_, rfl⟩
              rw [← hLL, ← hE, ← hF, ← hTT, ← hXs] at hlw
              have HLW := Lib.hid hlw
              have hlen := learnL_len y.s
              rw [← hLL] at hlen
              have HLN := Lib.hid (show LL.length ≤ 6 by have := HSD.out.spots.2; omega)
              have fewX : SmFew X := ⟨by rw [hXs]; exact HFW.out.sp, by rw [hXs]; exact HFW.out.tl, by rw [hXs]; show (y.s.reads.set i _).length ≤ 1000; rw [List.length_set]; exact HFW.out.rd⟩
              have HLX : Hid (∀ W, newer w4 W → Calls Try.prog 26 #[.agg #[.slice sa y.s.spots.length sc, vi y.s.strain, .slice ta y.s.tools.length tc, vi y.s.day, .slice (some ⟨g, 0, none⟩) y.s.reads.length rc]] W fun e w' => ∃ B d, e = .returned (.tuple #[.slice B LL.length d, vi E]) ∧ w'.ownsRow W.heap.size 56 4 (.slice B LL.length d) LL.length (LL.flatMap spL) ∧ newer W w') := Lib.hid (fun W hW => by
                have h := learn_all X W (hx4.next hW) fewX
                rw [hlw.1, hlw.2.1, hsx] at h
                exact h)
              have HTX : Hid (∀ W, newer w4 W → Calls Try.prog 32 #[.agg #[.slice sa y.s.spots.length sc, vi y.s.strain, .slice ta y.s.tools.length tc, vi y.s.day, .slice (some ⟨g, 0, none⟩) y.s.reads.length rc]] W fun e w' => ∃ xs A c, e = .returned (.tuple #[.slice A xs.length c, vi F]) ∧ xs.map (·.l) = TT.map (decL pl) ∧ LlOwn xs A c W.heap.size w' ∧ newer W w') := Lib.hid (fun W hW => by
                have h := turns_all X W (hx4.next hW) fewX
                rw [hlw.2.2.1, hlw.2.2.2.1, hsx] at h
                exact h)
              have HLY : Hid (∀ sa sc ta tc ra rc W, SmOk ⟨y.s, sa, sc, ta, tc, ra, rc⟩ W → Calls Try.prog 26 #[.agg #[.slice sa y.s.spots.length sc, vi y.s.strain, .slice ta y.s.tools.length tc, vi y.s.day, .slice ra y.s.reads.length rc]] W fun e w' => ∃ B d, e = .returned (.tuple #[.slice B LL.length d, vi E]) ∧ w'.ownsRow W.heap.size 56 4 (.slice B LL.length d) LL.length (LL.flatMap spL) ∧ newer W w') := Lib.hid (fun sa sc ta tc ra rc W hW => by
                have h := learn_all ⟨y.s, sa, sc, ta, tc, ra, rc⟩ W hW (few_s (y := y) rfl HFW.out)
                rw [← hLL, ← hE] at h
                exact h)
              have HTY : Hid (∀ sa sc ta tc ra rc W, SmOk ⟨y.s, sa, sc, ta, tc, ra, rc⟩ W → Calls Try.prog 32 #[.agg #[.slice sa y.s.spots.length sc, vi y.s.strain, .slice ta y.s.tools.length tc, vi y.s.day, .slice ra y.s.reads.length rc]] W fun e w' => ∃ xs A c, e = .returned (.tuple #[.slice A xs.length c, vi F]) ∧ xs.map (·.l) = TT ∧ LlOwn xs A c W.heap.size w' ∧ newer W w') := Lib.hid (fun sa sc ta tc ra rc W hW => by
                have h := turns_all ⟨y.s, sa, sc, ta, tc, ra, rc⟩ W hW (few_s (y := y) rfl HFW.out)
                rw [← hF, ← hTT] at h
                exact h)
              have HSV : Hid (∀ W, newer w4 W → Calls Try.prog 21 #[smV y] W fun e w' => ∃ sa sc ta tc ra rc, e = .returned (.agg #[.slice sa y.s.spots.length sc, vi y.s.strain, .slice ta y.s.tools.length tc, vi y.s.day, .slice ra y.s.reads.length rc]) ∧ SvOwn ⟨y.s, sa, sc, ta, tc, ra, rc⟩ W.heap.size w' ∧ newer W w') := Lib.hid (fun W hW => survey_any y W (HR1.out.next (newer_trans hn4 hW)) HFW.out)
              have HTF : Hid (TT.length ≤ 60) := Lib.hid (by rw [hTT]; exact turnLs_few _)
              have HLT : Hid (∀ l ∈ TT, l.length ≤ 8) := Lib.hid (fun l hl => by
                rw [hTT] at hl
                have h := turnLs_mem hl
                rw [turnsN_len h.1 h.2]
                exact Nat.le_trans (List.length_filter_le _ _) HSD.out.few)
              have H4 := Lib.hid (And.intro hn4 (And.intro hb4 (HB.out.below hn4 HB.out.lt)))
              clear hn4 hb4 hx4 hlw hLL hE hF hTT hlen fewX hsx hXs hX hrt r0 rf z4
              have x0 := (H4.out.2.2.below (newer_refl w4) H4.out.2.2.lt).at 0 (v := .slice y.sa y.s.spots.length y.sc) rfl
              have x1 := (H4.out.2.2.below (newer_refl w4) H4.out.2.2.lt).at 1 (v := vi y.s.strain) rfl
              have x2 := (H4.out.2.2.below (newer_refl w4) H4.out.2.2.lt).at 2 (v := .slice y.ta y.s.tools.length y.tc) rfl
              have x3 := (H4.out.2.2.below (newer_refl w4) H4.out.2.2.lt).at 3 (v := vi y.s.day) rfl
              have x4 := (H4.out.2.2.below (newer_refl w4) H4.out.2.2.lt).at 4 (v := .slice y.ra y.s.reads.length y.rc) rfl
              go_wp2_with fail
              refine (HSV.out w4 (newer_refl _)).mono ?_
              rintro e w5 ⟨sa1, sc1, ta1, tc1, ra1, rc1, rfl, ho, hn⟩
              have H5 := Lib.hid (And.intro ho.ok hn)
              clear ho hn
              clear x0 x1 x2 x3 x4
              go_wp2_with fail
              refine (HLY.out _ _ _ _ _ _ w5 H5.out.1).mono ?_
              rintro e w6 ⟨B1, d1, rfl, hl1, hn⟩
              have H6 := Lib.hid (And.intro hl1 (newer_trans H5.out.2 hn))
              clear hl1 hn H5
              have z0 := (H4.out.2.1.below H6.out.2 H4.out.2.1.lt).at 0 (v := .slice sa y.s.spots.length sc) rfl
              have z1 := (H4.out.2.1.below H6.out.2 H4.out.2.1.lt).at 1 (v := vi y.s.strain) rfl
              have z2 := (H4.out.2.1.below H6.out.2 H4.out.2.1.lt).at 2 (v := .slice ta y.s.tools.length tc) rfl
              have z3 := (H4.out.2.1.below H6.out.2 H4.out.2.1.lt).at 3 (v := vi y.s.day) rfl
              have z4 := (H4.out.2.1.below H6.out.2 H4.out.2.1.lt).at 4 (v := .slice (some ⟨g, 0, none⟩) y.s.reads.length rc) rfl
              go_wp2_with fail
              refine (HLX.out w6 H6.out.2).mono ?_
              rintro e w7 ⟨B2, d2, rfl, hl2, hn⟩
              have H7 := Lib.hid (And.intro (own_below H6.out.1 hn) (And.intro hl2 (newer_trans H6.out.2 hn)))
              clear hl2 hn H6
              clear z0 z1 z2 z3 z4
              have x0 := (H4.out.2.2.below H7.out.2.2 H4.out.2.2.lt).at 0 (v := .slice y.sa y.s.spots.length y.sc) rfl
              have x1 := (H4.out.2.2.below H7.out.2.2 H4.out.2.2.lt).at 1 (v := vi y.s.strain) rfl
              have x2 := (H4.out.2.2.below H7.out.2.2 H4.out.2.2.lt).at 2 (v := .slice y.ta y.s.tools.length y.tc) rfl
              have x3 := (H4.out.2.2.below H7.out.2.2 H4.out.2.2.lt).at 3 (v := vi y.s.day) rfl
              have x4 := (H4.out.2.2.below H7.out.2.2 H4.out.2.2.lt).at 4 (v := .slice y.ra y.s.reads.length y.rc) rfl
              go_wp2_with fail
              refine (HSV.out w7 H7.out.2.2).mono ?_
              rintro e w8 ⟨sa2, sc2, ta2, tc2, ra2, rc2, rfl, ho, hn⟩
              have H8 := Lib.hid (And.intro ho.ok hn)
              clear ho hn
              clear x0 x1 x2 x3 x4
              go_wp2_with fail
              refine (HTY.out _ _ _ _ _ _ w8 H8.out.1).mono ?_
              rintro e w9 ⟨xs, A3, c3, rfl, hxs, hl3, hn⟩
              have H9 := Lib.hid (And.intro (newer_trans H8.out.2 hn) (And.intro hl3 (newer_trans H7.out.2.2 (newer_trans H8.out.2 hn))))
              have HXS := Lib.hid hxs
              have hxl : xs.length = TT.length := by rw [← hxs, List.length_map]
              rw [hxl]
              have HXL := Lib.hid hxl
              clear hxs hl3 hn H8 hxl
              have z0 := (H4.out.2.1.below H9.out.2.2 H4.out.2.1.lt).at 0 (v := .slice sa y.s.spots.length sc) rfl
              have z1 := (H4.out.2.1.below H9.out.2.2 H4.out.2.1.lt).at 1 (v := vi y.s.strain) rfl
              have z2 := (H4.out.2.1.below H9.out.2.2 H4.out.2.1.lt).at 2 (v := .slice ta y.s.tools.length tc) rfl
              have z3 := (H4.out.2.1.below H9.out.2.2 H4.out.2.1.lt).at 3 (v := vi y.s.day) rfl
              have z4 := (H4.out.2.1.below H9.out.2.2 H4.out.2.1.lt).at 4 (v := .slice (some ⟨g, 0, none⟩) y.s.reads.length rc) rfl
              go_wp2_with fail
              refine (HTX.out w9 H9.out.2.2).mono ?_
              rintro e wa ⟨zs, A4, c4, rfl, hzs, hl4, hn⟩
              have hzl : zs.length = TT.length := by have h := congrArg List.length hzs; rw [List.length_map, List.length_map] at h; exact h
              rw [hzl]
              have HA := Lib.hid (And.intro (own_below H7.out.1 (newer_trans H9.out.1 hn)) (And.intro (own_below H7.out.2.1 (newer_trans H9.out.1 hn)) (And.intro (H9.out.2.1.next hn) (And.intro hl4 (newer_trans H4.out.1 (newer_trans H9.out.2.2 hn))))))
              have HZS := Lib.hid (And.intro hzs hzl)
              clear hzs hl4 hn hzl H7 H9
              clear z0 z1 z2 z3 z4
              go_wp2_with fail
              obtain ⟨n, hn⟩ : ∃ n, n = LL.length := ⟨_, rfl⟩
              have HNN := Lib.hid hn
              rw [← hn]
              have hn6 : n ≤ 6 := by rw [hn]; exact HLN.out
              obtain ⟨m, hm⟩ : ∃ m, m = TT.length := ⟨_, rfl⟩
              have HMM := Lib.hid hm
              have hm60 : m ≤ 60 := by rw [hm]; exact HTF.out
              rw [← hm]
              clear hn hm
              go_loopw [18] (fun s18 wx => ∃ v : Nat, v ≤ n ∧ s18 = vi v ∧ newer wa wx) (fun s18 _ => n - (intOf s18).toNat)
              case atStart => exact ⟨0, Nat.zero_le _, rfl, newer_refl _⟩
              case round =>
                obtain ⟨v, hv, rfl, hnx⟩ := hrel
                have HNX := Lib.hid hnx
                by_cases hlt : v < n
                case pos =>
                  have hin : (v : Int) < n := by omega
                  obtain ⟨p, hp⟩ : ∃ p, LL[v]? = some p := ⟨_, List.getElem?_eq_getElem (by have := HNN.out; omega)⟩
                  obtain ⟨ab, ao, e1, _, p0, p1, p2, p3⟩ := row4 (row_of_own (enc := spL) (size := 4) (by decide) (fun _ => rfl) (own_below HA.out.1 hnx)) hp
                  obtain ⟨bb, bo, e2, _, q0, q1, q2, q3⟩ := row4 (row_of_own (enc := spL) (size := 4) (by decide) (fun _ => rfl) (own_below HA.out.2.1 hnx)) hp
                  rw [e1, e2]
                  clear hp e1 e2 hnx
                  go_upto_region 24 with fail
                  refine wp_words (by kernel_rfl) (region_told 8 (by kernel_rfl) (by kernel_rfl) (fun W => Below wr.heap.size wr W) newer (pickD [vIs (.slice (some ⟨ab, ao, none⟩) n d1), vIs (.int .i64 v), vIs (.pointer (some ⟨ab, ao + v * 4, none⟩)), vIs (spV p), vIs (.slice (some ⟨bb, bo, none⟩) n d2), vIs (.int .i64 v), vIs (.pointer (some ⟨bb, bo + v * 4, none⟩)), vIs (spV p)]) (fun h k => newer_trans h k) (pickD_stable _ ⟨vIs_st, vIs_st, vIs_st, vIs_st, vIs_st, vIs_st, vIs_st, vIs_st, trivial⟩) (Below.refl _ wr).drew (Below.refl _ _) ?_ ?_)
                  · refine ⟨?_, ?_, ?_, ?_, ?_, ?_, ?_, ?_, trivial⟩
                    · exact fun a W hG _ hO _ => kM 10 rfl (hO.slot 10 (by kernel_rfl)) rfl hG
                    · exact fun a W hG _ hO _ => kM 18 rfl (hO.slot 18 (by kernel_rfl)) rfl hG
                    · intro a W hG hR hO hp
                      have h131 : slotOf a 131 = .slice (some ⟨ab, ao, none⟩) n d1 := hp.1
                      have h132 : slotOf a 132 = .int .i64 v := hp.2.1
                      refine kY (v := .pointer (some ⟨ab, ao + v * 4, none⟩)) hG rfl ?_
                      simp [slotOf] at h131 h132
                      simp [execOp, go_sem, h131, h132, hin]
                    · intro a W hG hR hO hp
                      have h133 : slotOf a 133 = .pointer (some ⟨ab, ao + v * 4, none⟩) := hp.1
                      have c0 := keep_cell p0 hG
                      have c1 := keep_cell p1 hG
                      have c2 := keep_cell p2 hG
                      have c3 := keep_cell p3 hG
                      refine kY (v := spV p) hG rfl ?_
                      simp [slotOf] at h133
                      simp [execOp, go_sem, h133, c0, c1, c2, c3]
                    · exact fun a W hG _ hO _ => kM 12 rfl (hO.slot 12 (by kernel_rfl)) rfl hG
                    · exact fun a W hG _ hO _ => kM 18 rfl (hO.slot 18 (by kernel_rfl)) rfl hG
                    · intro a W hG hR hO hp
                      have h135 : slotOf a 135 = .slice (some ⟨bb, bo, none⟩) n d2 := hp.1
                      have h136 : slotOf a 136 = .int .i64 v := hp.2.1
                      refine kY (v := .pointer (some ⟨bb, bo + v * 4, none⟩)) hG rfl ?_
                      simp [slotOf] at h135 h136
                      simp [execOp, go_sem, h135, h136, hin]
                    · intro a W hG hR hO hp
                      have h137 : slotOf a 137 = .pointer (some ⟨bb, bo + v * 4, none⟩) := hp.1
                      have c0 := keep_cell q0 hG
                      have c1 := keep_cell q1 hG
                      have c2 := keep_cell q2 hG
                      have c3 := keep_cell q3 hG
                      refine kY (v := spV p) hG rfl ?_
                      simp [slotOf] at h137
                      simp [execOp, go_sem, h137, c0, c1, c2, c3]
                  · intro wy hG hR
                    rintro _ rfl _ rfl _ rfl _ rfl _ rfl _ rfl _ rfl _ rfl
                    change wpList _ _ _ _ _ _
                    simp only [Act.put, List.setIfInBounds_toArray, List.set_cons_zero, List.set_cons_succ, List.drop_succ_cons, List.drop_zero]
                    have HNY := Lib.hid (newer_trans HNX.out hG)
                    clear hG hR p0 p1 p2 p3 q0 q1 q2 q3
                    go_wp2_with fail
                    refine ⟨⟨v + 1, by omega, rfl, HNY.out⟩, ?_⟩
                    simp [intOf]
                    omega
                case neg =>
                  obtain rfl : v = n := by omega
                  have hge : ¬ (v : Int) < v := by omega
                  clear hnx
                  obtain ⟨wb, hwb⟩ : ∃ wb, wb = wr := ⟨_, rfl⟩
                  rw [← hwb] at HNX ⊢
                  clear hwb
                  go_wp2_with fail
                  go_loopw [19] (fun s19 wx => ∃ u : Nat, u ≤ m ∧ s19 = vi u ∧ newer wb wx) (fun s19 _ => m - (intOf s19).toNat)
                  case atStart => exact ⟨0, Nat.zero_le _, rfl, newer_refl _⟩
                  case round =>
                    obtain ⟨u, hu, rfl, hny⟩ := hrel
                    have HNY := Lib.hid (newer_trans HNX.out hny)
                    have HNY0 := Lib.hid hny
                    clear hny
                    by_cases hlt : u < m
                    case pos =>
                      have hum : (u : Int) < m := by omega
                      obtain ⟨x, hx⟩ : ∃ x, xs[u]? = some x := ⟨_, List.getElem?_eq_getElem (by have := HMM.out; have := HXL.out; omega)⟩
                      obtain ⟨z, hz⟩ : ∃ z, zs[u]? = some z := ⟨_, List.getElem?_eq_getElem (by have := HMM.out; have := HZS.out.2; omega)⟩
                      have hxT : x.l ∈ TT := by rw [← HXS.out]; exact List.mem_map.2 ⟨x, List.mem_of_getElem? hx, rfl⟩
                      have hzx : z.l = decL pl x.l := by
                        have h := congrArg (fun q : List (List Int) => q[u]?) HZS.out.1
                        rw [← HXS.out] at h
                        simp only [List.getElem?_map, hx, hz, Option.map_some] at h
                        injection h
                      have hlw := HLW.out.2.2.2.2 x.l hxT
                      obtain ⟨q, hq⟩ : ∃ q, q = x.l.length := ⟨_, rfl⟩
                      have hzq : z.l.length = q := by rw [hzx, decL_len, hq]
                      have hqp : ¬ q ≤ pl := by rw [hq]; have := hlw.1; omega
                      have hok3 := HA.out.2.2.1.next HNY.out
                      have hok4 := HA.out.2.2.2.1.next HNY.out
                      obtain ⟨ab, ao, e1, _, ca⟩ := rowLn hok3.ok.row hx
                      obtain ⟨bb, bo, e2, _, cz⟩ := rowLn hok4.ok.row hz
                      have hrx := hok3.ok.inn x (List.mem_of_getElem? hx)
                      have hrz := hok4.ok.inn z (List.mem_of_getElem? hz)
                      obtain ⟨a0, ha0⟩ : ∃ a, x.l[0]? = some a := ⟨_, List.getElem?_eq_getElem (by have := hlw.1; omega)⟩
                      obtain ⟨b0, hb0⟩ : ∃ a, z.l[0]? = some a := ⟨_, List.getElem?_eq_getElem (by rw [hzx, decL_len]; have := hlw.1; omega)⟩
                      obtain ⟨xb2, xo, ex, _, _⟩ := row1 hrx ha0
                      obtain ⟨zb2, zo, ez, _, _⟩ := row1 hrz hb0
                      rw [ex, ← hq] at ca
                      rw [ez, hzq] at cz
                      rw [e1, e2]
                      have HIN := Lib.hid (And.intro hrx (And.intro hrz (And.intro ex (And.intro ez (And.intro hzx (And.intro hq hlw.2))))))
                      have HQT := Lib.hid (show q ≤ 8 by
                        have h := HLT.out x.l hxT
                        rw [← hq] at h
                        exact h)
                      clear hx hz hxT hzx hlw hq hzq hok3 hok4 e1 e2 hrx hrz ha0 hb0 ex ez
                      go_upto_region 29 with fail
                      refine wp_words (by kernel_rfl) (region_told_u 19 (by kernel_rfl) (by kernel_rfl) [false, false, false, false, false, false, false, false, false, false, false, false, false, false, false, false, false, false, false] (fun W => Below wr.heap.size wr W) newer [vIs (.slice (some ⟨ab, ao, none⟩) m c3), vIs (.int .i64 u), vIs (.pointer (some ⟨ab, ao + u, none⟩)), vIs (.slice (some ⟨xb2, xo, none⟩) q x.c), vIs (.int .i64 q), vIs (.int .i64 pl), vIs (.bool false), vIs (.bool false), vIs (.slice (some ⟨bb, bo, none⟩) m c4), vIs (.int .i64 u), vIs (.pointer (some ⟨bb, bo + u, none⟩)), vIs (.slice (some ⟨zb2, zo, none⟩) q z.c), vIs (.int .i64 q), vIs (.slice (some ⟨ab, ao, none⟩) m c3), vIs (.int .i64 u), vIs (.pointer (some ⟨ab, ao + u, none⟩)), vIs (.slice (some ⟨xb2, xo, none⟩) q x.c), vIs (.int .i64 q), vIs (.bool false)] ⟨rfl, rfl, rfl, rfl, rfl, rfl, rfl, rfl, (fun v W h => by obtain rfl : v = _ := h; rfl), (fun v W h => by obtain rfl : v = _ := h; rfl), (fun v W h => by obtain rfl : v = _ := h; rfl), (fun v W h => by obtain rfl : v = _ := h; rfl), (fun v W h => by obtain rfl : v = _ := h; rfl), (fun v W h => by obtain rfl : v = _ := h; rfl), (fun v W h => by obtain rfl : v = _ := h; rfl), (fun v W h => by obtain rfl : v = _ := h; rfl), (fun v W h => by obtain rfl : v = _ := h; rfl), (fun v W h => by obtain rfl : v = _ := h; rfl), (fun v W h => by obtain rfl : v = _ := h; rfl), trivial⟩ ⟨(fun h => Bool.noConfusion (show false = true from h)), (fun h => Bool.noConfusion (show false = true from h)), (fun h => Bool.noConfusion (show false = true from h)), (fun h => Bool.noConfusion (show false = true from h)), (fun h => Bool.noConfusion (show false = true from h)), (fun h => Bool.noConfusion (show false = true from h)), (fun h => Bool.noConfusion (show false = true from h)), (fun h => Bool.noConfusion (show false = true from h)), (fun h => Bool.noConfusion (show false = true from h)), (fun h => Bool.noConfusion (show false = true from h)), (fun h => Bool.noConfusion (show false = true from h)), (fun h => Bool.noConfusion (show false = true from h)), (fun h => Bool.noConfusion (show false = true from h)), (fun h => Bool.noConfusion (show false = true from h)), (fun h => Bool.noConfusion (show false = true from h)), (fun h => Bool.noConfusion (show false = true from h)), (fun h => Bool.noConfusion (show false = true from h)), (fun h => Bool.noConfusion (show false = true from h)), (fun h => Bool.noConfusion (show false = true from h)), trivial⟩ (fun h k => newer_trans h k) (pickD_stable _ ⟨vIs_st, vIs_st, vIs_st, vIs_st, vIs_st, vIs_st, vIs_st, vIs_st, vIs_st, vIs_st, vIs_st, vIs_st, vIs_st, vIs_st, vIs_st, vIs_st, vIs_st, vIs_st, vIs_st, trivial⟩) (Below.refl _ wr).drew (Below.refl _ _) ?_ ?_)
                      · refine ⟨.inr ?_, .inr ?_, .inr ?_, .inr ?_, .inr ?_, .inr ?_, .inr ?_, .inr ?_, .inr ?_, .inr ?_, .inr ?_, .inr ?_, .inr ?_, .inr ?_, .inr ?_, .inr ?_, .inr ?_, .inr ?_, .inr ?_, trivial⟩
                        · exact fun a W hG _ hO _ => kM 14 rfl (hO.slot 14 (by kernel_rfl)) rfl hG
                        · exact fun a W hG _ hO _ => kM 19 rfl (hO.slot 19 (by kernel_rfl)) rfl hG
                        · intro a W hG hR hO hp
                          have h146 : slotOf a 146 = .slice (some ⟨ab, ao, none⟩) m c3 := hp.1
                          have h147 : slotOf a 147 = .int .i64 u := hp.2.1
                          refine kY (v := .pointer (some ⟨ab, ao + u, none⟩)) hG rfl ?_
                          simp [slotOf] at h146 h147
                          simp [execOp, go_sem, h146, h147, hum]
                        · intro a W hG hR hO hp
                          have h148 : slotOf a 148 = .pointer (some ⟨ab, ao + u, none⟩) := hp.1
                          have c0 := keep_cell ca hG
                          refine kY (v := .slice (some ⟨xb2, xo, none⟩) q x.c) hG rfl ?_
                          simp [slotOf] at h148
                          simp [execOp, go_sem, h148, c0]
                        · intro a W hG hR hO hp
                          have h149 : slotOf a 149 = .slice (some ⟨xb2, xo, none⟩) q x.c := hp.1
                          refine kY (v := .int .i64 q) hG rfl ?_
                          simp [slotOf] at h149
                          simp [go_sem, h149]
                        · exact fun a W hG _ hO _ => kM 7 rfl (hO.slot 7 (by kernel_rfl)) rfl hG
                        · intro a W hG hR hO hp
                          have h150 : slotOf a 150 = .int .i64 q := hp.1
                          have h151 : slotOf a 151 = .int .i64 pl := hp.2.1
                          refine kY (v := .bool false) hG rfl ?_
                          simp [slotOf] at h150 h151
                          simp [execOp, go_sem, h150, h151, hqp]
                        · exact fun a W hG _ _ hp => kM 152 rfl hp.1 rfl hG
                        · exact fun a W hG _ hO _ => kM 16 rfl (hO.slot 16 (by kernel_rfl)) rfl hG
                        · exact fun a W hG _ hO _ => kM 19 rfl (hO.slot 19 (by kernel_rfl)) rfl hG
                        · intro a W hG hR hO hp
                          have h154 : slotOf a 154 = .slice (some ⟨bb, bo, none⟩) m c4 := hp.1
                          have h155 : slotOf a 155 = .int .i64 u := hp.2.1
                          refine kY (v := .pointer (some ⟨bb, bo + u, none⟩)) hG rfl ?_
                          simp [slotOf] at h154 h155
                          simp [execOp, go_sem, h154, h155, hum]
                        · intro a W hG hR hO hp
                          have h156 : slotOf a 156 = .pointer (some ⟨bb, bo + u, none⟩) := hp.1
                          have c0 := keep_cell cz hG
                          refine kY (v := .slice (some ⟨zb2, zo, none⟩) q z.c) hG rfl ?_
                          simp [slotOf] at h156
                          simp [execOp, go_sem, h156, c0]
                        · intro a W hG hR hO hp
                          have h157 : slotOf a 157 = .slice (some ⟨zb2, zo, none⟩) q z.c := hp.1
                          refine kY (v := .int .i64 q) hG rfl ?_
                          simp [slotOf] at h157
                          simp [go_sem, h157]
                        · exact fun a W hG _ hO _ => kM 14 rfl (hO.slot 14 (by kernel_rfl)) rfl hG
                        · exact fun a W hG _ hO _ => kM 19 rfl (hO.slot 19 (by kernel_rfl)) rfl hG
                        · intro a W hG hR hO hp
                          have h159 : slotOf a 159 = .slice (some ⟨ab, ao, none⟩) m c3 := hp.1
                          have h160 : slotOf a 160 = .int .i64 u := hp.2.1
                          refine kY (v := .pointer (some ⟨ab, ao + u, none⟩)) hG rfl ?_
                          simp [slotOf] at h159 h160
                          simp [execOp, go_sem, h159, h160, hum]
                        · intro a W hG hR hO hp
                          have h161 : slotOf a 161 = .pointer (some ⟨ab, ao + u, none⟩) := hp.1
                          have c0 := keep_cell ca hG
                          refine kY (v := .slice (some ⟨xb2, xo, none⟩) q x.c) hG rfl ?_
                          simp [slotOf] at h161
                          simp [execOp, go_sem, h161, c0]
                        · intro a W hG hR hO hp
                          have h162 : slotOf a 162 = .slice (some ⟨xb2, xo, none⟩) q x.c := hp.1
                          refine kY (v := .int .i64 q) hG rfl ?_
                          simp [slotOf] at h162
                          simp [go_sem, h162]
                        · intro a W hG hR hO hp
                          have h158 : slotOf a 158 = .int .i64 q := hp.1
                          have h163 : slotOf a 163 = .int .i64 q := hp.2.1
                          refine kY (v := .bool false) hG rfl ?_
                          simp [slotOf] at h158 h163
                          simp [execOp, go_sem, h158, h163]
                      · intro w29 hG hR
                        rintro _ rfl _ rfl _ rfl _ rfl _ rfl _ rfl _ rfl _ rfl _ rfl _ rfl _ rfl _ rfl _ rfl _ rfl _ rfl _ rfl _ rfl _ rfl _ rfl
                        change wpList _ _ _ _ _ _
                        simp only [Act.put, List.setIfInBounds_toArray, List.set_cons_zero, List.set_cons_succ, List.drop_succ_cons, List.drop_zero]
                        have ca2 := keep_cell ca hG
                        have cz2 := keep_cell cz hG
                        have HNZ2 := Lib.hid (newer_trans HNY0.out hG)
                        have HNZ3 := Lib.hid hG
                        have hq8 := HQT.out
                        clear hG hR ca cz
                        go_wp2_with fail
                        go_loopw [20, 21] (fun s20 _ wx => ∃ y2 : Nat, y2 ≤ q ∧ s20 = vi y2 ∧ newer w29 wx) (fun s20 _ _ => q - (intOf s20).toNat)
                        case atStart => exact ⟨0, Nat.zero_le _, rfl, newer_refl _⟩
                        case round =>
                          obtain ⟨y2, hy2, rfl, hnz⟩ := hrel
                          have HNW := Lib.hid hnz
                          have ca := keep_cell ca2 hnz
                          have cz := keep_cell cz2 hnz
                          by_cases hlt : y2 < q
                          case neg =>
                            obtain rfl : y2 = q := by omega
                            have hge3 : ¬ (y2 : Int) < y2 := by omega
                            clear hnz
                            go_wp2_with fail
                            refine ⟨⟨u + 1, by omega, rfl, newer_trans HNZ2.out HNW.out⟩, ?_⟩
                            simp [intOf]
                            omega
                          case pos =>
                            have hyq : (y2 : Int) < q := by omega
                            obtain ⟨va, ha⟩ : ∃ va, x.l[y2]? = some va := ⟨_, List.getElem?_eq_getElem (by have := HIN.out.2.2.2.2.2.1; omega)⟩
                            have hab := HIN.out.2.2.2.2.2.2 va (List.mem_of_getElem? ha)
                            have ha1 := hab.1
                            have ha2 := hab.2
                            have hza := decL_at pl x.l y2 va ha
                            rw [← HIN.out.2.2.2.2.1] at hza
                            have hn2 := newer_trans HNZ3.out hnz
                            obtain ⟨b1, o1, e1, _, ra⟩ := row1 ((HIN.out.1.below hn2).more hn2.size) ha
                            rw [HIN.out.2.2.1] at e1
                            injection e1 with e1
                            injection e1 with eb eo
                            subst eb
                            subst eo
                            obtain ⟨b1, o1, e1, _, rz⟩ := row1 ((HIN.out.2.1.below hn2).more hn2.size) hza
                            rw [HIN.out.2.2.2.1] at e1
                            injection e1 with e1
                            injection e1 with eb eo
                            subst eb
                            subst eo
                            clear hab ha hza hn2 hnz
                            by_cases hyp : y2 = pl
                            case pos =>
                              rw [if_pos hyp] at rz
                              have hyb : ((y2 : Int) == (pl : Int)) = true := by simp [hyp]
                              have haw : IntKind.i64.wrap (va - 1) = va - 1 := IntWalk.i64_in _ (by omega)
                              clear hyp
                              go_upto_region 37 with fail
                              refine wp_words (by kernel_rfl) (region_told 16 (by kernel_rfl) (by kernel_rfl) (fun W => Below wr.heap.size wr W) newer (pickD [vIs (.slice (some ⟨bb, bo, none⟩) m c4), vIs (.int .i64 u), vIs (.pointer (some ⟨bb, bo + u, none⟩)), vIs (.slice (some ⟨zb2, zo, none⟩) q z.c), vIs (.int .i64 y2), vIs (.pointer (some ⟨zb2, zo + y2, none⟩)), vIs (vi (va - 1)), vIs (.slice (some ⟨ab, ao, none⟩) m c3), vIs (.int .i64 u), vIs (.pointer (some ⟨ab, ao + u, none⟩)), vIs (.slice (some ⟨xb2, xo, none⟩) q x.c), vIs (.int .i64 y2), vIs (.pointer (some ⟨xb2, xo + y2, none⟩)), vIs (vi va), vIs (vi 1), vIs (vi (va - 1))]) (fun h k => newer_trans h k) (pickD_stable _ ⟨vIs_st, vIs_st, vIs_st, vIs_st, vIs_st, vIs_st, vIs_st, vIs_st, vIs_st, vIs_st, vIs_st, vIs_st, vIs_st, vIs_st, vIs_st, vIs_st, trivial⟩) (Below.refl _ wr).drew (Below.refl _ _) ?_ ?_)
                              · refine ⟨?_, ?_, ?_, ?_, ?_, ?_, ?_, ?_, ?_, ?_, ?_, ?_, ?_, ?_, ?_, ?_, trivial⟩
                                · exact fun a W hG _ hO _ => kM 16 rfl (hO.slot 16 (by kernel_rfl)) rfl hG
                                · exact fun a W hG _ hO _ => kM 19 rfl (hO.slot 19 (by kernel_rfl)) rfl hG
                                · intro a W hG hR hO hp
                                  have h178 : slotOf a 178 = .slice (some ⟨bb, bo, none⟩) m c4 := hp.1
                                  have h179 : slotOf a 179 = .int .i64 u := hp.2.1
                                  refine kY (v := .pointer (some ⟨bb, bo + u, none⟩)) hG rfl ?_
                                  simp [slotOf] at h178 h179
                                  simp [execOp, go_sem, h178, h179, hum]
                                · intro a W hG hR hO hp
                                  have h180 : slotOf a 180 = .pointer (some ⟨bb, bo + u, none⟩) := hp.1
                                  have c0 := keep_cell cz hG
                                  refine kY (v := .slice (some ⟨zb2, zo, none⟩) q z.c) hG rfl ?_
                                  simp [slotOf] at h180
                                  simp [execOp, go_sem, h180, c0]
                                · exact fun a W hG _ hO _ => kM 20 rfl (hO.slot 20 (by kernel_rfl)) rfl hG
                                · intro a W hG hR hO hp
                                  have h181 : slotOf a 181 = .slice (some ⟨zb2, zo, none⟩) q z.c := hp.1
                                  have h182 : slotOf a 182 = .int .i64 y2 := hp.2.1
                                  refine kY (v := .pointer (some ⟨zb2, zo + y2, none⟩)) hG rfl ?_
                                  simp [slotOf] at h181 h182
                                  simp [execOp, go_sem, h181, h182, hyq]
                                · intro a W hG hR hO hp
                                  have h183 : slotOf a 183 = .pointer (some ⟨zb2, zo + y2, none⟩) := hp.1
                                  have c0 := keep_cell rz hG
                                  refine kY (v := vi (va - 1)) hG rfl ?_
                                  simp [slotOf] at h183
                                  simp [execOp, go_sem, h183, c0]
                                · exact fun a W hG _ hO _ => kM 14 rfl (hO.slot 14 (by kernel_rfl)) rfl hG
                                · exact fun a W hG _ hO _ => kM 19 rfl (hO.slot 19 (by kernel_rfl)) rfl hG
                                · intro a W hG hR hO hp
                                  have h185 : slotOf a 185 = .slice (some ⟨ab, ao, none⟩) m c3 := hp.1
                                  have h186 : slotOf a 186 = .int .i64 u := hp.2.1
                                  refine kY (v := .pointer (some ⟨ab, ao + u, none⟩)) hG rfl ?_
                                  simp [slotOf] at h185 h186
                                  simp [execOp, go_sem, h185, h186, hum]
                                · intro a W hG hR hO hp
                                  have h187 : slotOf a 187 = .pointer (some ⟨ab, ao + u, none⟩) := hp.1
                                  have c0 := keep_cell ca hG
                                  refine kY (v := .slice (some ⟨xb2, xo, none⟩) q x.c) hG rfl ?_
                                  simp [slotOf] at h187
                                  simp [execOp, go_sem, h187, c0]
                                · exact fun a W hG _ hO _ => kM 20 rfl (hO.slot 20 (by kernel_rfl)) rfl hG
                                · intro a W hG hR hO hp
                                  have h188 : slotOf a 188 = .slice (some ⟨xb2, xo, none⟩) q x.c := hp.1
                                  have h189 : slotOf a 189 = .int .i64 y2 := hp.2.1
                                  refine kY (v := .pointer (some ⟨xb2, xo + y2, none⟩)) hG rfl ?_
                                  simp [slotOf] at h188 h189
                                  simp [execOp, go_sem, h188, h189, hyq]
                                · intro a W hG hR hO hp
                                  have h190 : slotOf a 190 = .pointer (some ⟨xb2, xo + y2, none⟩) := hp.1
                                  have c0 := keep_cell ra hG
                                  refine kY (v := vi va) hG rfl ?_
                                  simp [slotOf] at h190
                                  simp [execOp, go_sem, h190, c0]
                                · exact fun a W hG _ hO _ => kM 21 rfl (hO.slot 21 (by kernel_rfl)) rfl hG
                                · intro a W hG hR hO hp
                                  have h191 : slotOf a 191 = vi va := hp.1
                                  have h192 : slotOf a 192 = vi 1 := hp.2.1
                                  refine kY (v := vi (va - 1)) hG rfl ?_
                                  simp [slotOf] at h191 h192
                                  simp [execOp, go_sem, h191, h192, haw]
                              · intro w37 hG hR
                                rintro _ rfl _ rfl _ rfl _ rfl _ rfl _ rfl _ rfl _ rfl _ rfl _ rfl _ rfl _ rfl _ rfl _ rfl _ rfl _ rfl
                                change wpList _ _ _ _ _ _
                                simp only [Act.put, List.setIfInBounds_toArray, List.set_cons_zero, List.set_cons_succ, List.drop_succ_cons, List.drop_zero]
                                have HNV := Lib.hid (newer_trans HNW.out hG)
                                clear hG hR ca cz ra rz
                                go_wp2_with fail
                                refine ⟨⟨y2 + 1, by omega, rfl, HNV.out⟩, ?_⟩
                                simp [intOf]
                                omega
                            case neg =>
                              rw [if_neg hyp, Int.sub_zero] at rz
                              have hyb : ((y2 : Int) == (pl : Int)) = false := by simp; omega
                              have hyb2 : ¬ (y2 : Int) = pl := by omega
                              have haw : IntKind.i64.wrap va = va := IntWalk.i64_in _ (by omega)
                              clear hyp
                              go_upto_region 37 with fail
                              refine wp_words (by kernel_rfl) (region_told 16 (by kernel_rfl) (by kernel_rfl) (fun W => Below wr.heap.size wr W) newer (pickD [vIs (.slice (some ⟨bb, bo, none⟩) m c4), vIs (.int .i64 u), vIs (.pointer (some ⟨bb, bo + u, none⟩)), vIs (.slice (some ⟨zb2, zo, none⟩) q z.c), vIs (.int .i64 y2), vIs (.pointer (some ⟨zb2, zo + y2, none⟩)), vIs (vi (va)), vIs (.slice (some ⟨ab, ao, none⟩) m c3), vIs (.int .i64 u), vIs (.pointer (some ⟨ab, ao + u, none⟩)), vIs (.slice (some ⟨xb2, xo, none⟩) q x.c), vIs (.int .i64 y2), vIs (.pointer (some ⟨xb2, xo + y2, none⟩)), vIs (vi va), vIs (vi 0), vIs (vi (va))]) (fun h k => newer_trans h k) (pickD_stable _ ⟨vIs_st, vIs_st, vIs_st, vIs_st, vIs_st, vIs_st, vIs_st, vIs_st, vIs_st, vIs_st, vIs_st, vIs_st, vIs_st, vIs_st, vIs_st, vIs_st, trivial⟩) (Below.refl _ wr).drew (Below.refl _ _) ?_ ?_)
                              · refine ⟨?_, ?_, ?_, ?_, ?_, ?_, ?_, ?_, ?_, ?_, ?_, ?_, ?_, ?_, ?_, ?_, trivial⟩
                                · exact fun a W hG _ hO _ => kM 16 rfl (hO.slot 16 (by kernel_rfl)) rfl hG
                                · exact fun a W hG _ hO _ => kM 19 rfl (hO.slot 19 (by kernel_rfl)) rfl hG
                                · intro a W hG hR hO hp
                                  have h178 : slotOf a 178 = .slice (some ⟨bb, bo, none⟩) m c4 := hp.1
                                  have h179 : slotOf a 179 = .int .i64 u := hp.2.1
                                  refine kY (v := .pointer (some ⟨bb, bo + u, none⟩)) hG rfl ?_
                                  simp [slotOf] at h178 h179
                                  simp [execOp, go_sem, h178, h179, hum]
                                · intro a W hG hR hO hp
                                  have h180 : slotOf a 180 = .pointer (some ⟨bb, bo + u, none⟩) := hp.1
                                  have c0 := keep_cell cz hG
                                  refine kY (v := .slice (some ⟨zb2, zo, none⟩) q z.c) hG rfl ?_
                                  simp [slotOf] at h180
                                  simp [execOp, go_sem, h180, c0]
                                · exact fun a W hG _ hO _ => kM 20 rfl (hO.slot 20 (by kernel_rfl)) rfl hG
                                · intro a W hG hR hO hp
                                  have h181 : slotOf a 181 = .slice (some ⟨zb2, zo, none⟩) q z.c := hp.1
                                  have h182 : slotOf a 182 = .int .i64 y2 := hp.2.1
                                  refine kY (v := .pointer (some ⟨zb2, zo + y2, none⟩)) hG rfl ?_
                                  simp [slotOf] at h181 h182
                                  simp [execOp, go_sem, h181, h182, hyq]
                                · intro a W hG hR hO hp
                                  have h183 : slotOf a 183 = .pointer (some ⟨zb2, zo + y2, none⟩) := hp.1
                                  have c0 := keep_cell rz hG
                                  refine kY (v := vi (va)) hG rfl ?_
                                  simp [slotOf] at h183
                                  simp [execOp, go_sem, h183, c0]
                                · exact fun a W hG _ hO _ => kM 14 rfl (hO.slot 14 (by kernel_rfl)) rfl hG
                                · exact fun a W hG _ hO _ => kM 19 rfl (hO.slot 19 (by kernel_rfl)) rfl hG
                                · intro a W hG hR hO hp
                                  have h185 : slotOf a 185 = .slice (some ⟨ab, ao, none⟩) m c3 := hp.1
                                  have h186 : slotOf a 186 = .int .i64 u := hp.2.1
                                  refine kY (v := .pointer (some ⟨ab, ao + u, none⟩)) hG rfl ?_
                                  simp [slotOf] at h185 h186
                                  simp [execOp, go_sem, h185, h186, hum]
                                · intro a W hG hR hO hp
                                  have h187 : slotOf a 187 = .pointer (some ⟨ab, ao + u, none⟩) := hp.1
                                  have c0 := keep_cell ca hG
                                  refine kY (v := .slice (some ⟨xb2, xo, none⟩) q x.c) hG rfl ?_
                                  simp [slotOf] at h187
                                  simp [execOp, go_sem, h187, c0]
                                · exact fun a W hG _ hO _ => kM 20 rfl (hO.slot 20 (by kernel_rfl)) rfl hG
                                · intro a W hG hR hO hp
                                  have h188 : slotOf a 188 = .slice (some ⟨xb2, xo, none⟩) q x.c := hp.1
                                  have h189 : slotOf a 189 = .int .i64 y2 := hp.2.1
                                  refine kY (v := .pointer (some ⟨xb2, xo + y2, none⟩)) hG rfl ?_
                                  simp [slotOf] at h188 h189
                                  simp [execOp, go_sem, h188, h189, hyq]
                                · intro a W hG hR hO hp
                                  have h190 : slotOf a 190 = .pointer (some ⟨xb2, xo + y2, none⟩) := hp.1
                                  have c0 := keep_cell ra hG
                                  refine kY (v := vi va) hG rfl ?_
                                  simp [slotOf] at h190
                                  simp [execOp, go_sem, h190, c0]
                                · exact fun a W hG _ hO _ => kM 21 rfl (hO.slot 21 (by kernel_rfl)) rfl hG
                                · intro a W hG hR hO hp
                                  have h191 : slotOf a 191 = vi va := hp.1
                                  have h192 : slotOf a 192 = vi 0 := hp.2.1
                                  refine kY (v := vi (va)) hG rfl ?_
                                  simp [slotOf] at h191 h192
                                  simp [execOp, go_sem, h191, h192, haw]
                              · intro w37 hG hR
                                rintro _ rfl _ rfl _ rfl _ rfl _ rfl _ rfl _ rfl _ rfl _ rfl _ rfl _ rfl _ rfl _ rfl _ rfl _ rfl _ rfl
                                change wpList _ _ _ _ _ _
                                simp only [Act.put, List.setIfInBounds_toArray, List.set_cons_zero, List.set_cons_succ, List.drop_succ_cons, List.drop_zero]
                                have HNV := Lib.hid (newer_trans HNW.out hG)
                                clear hG hR ca cz ra rz
                                go_wp2_with fail
                                refine ⟨⟨y2 + 1, by omega, rfl, HNV.out⟩, ?_⟩
                                simp [intOf]
                                omega
                    case neg =>
                      obtain rfl : u = m := by omega
                      have hge2 : ¬ (u : Int) < u := by omega
                      go_wp2_with fail
                      refine (awake_any _).mono ?_
                      rintro e wk ⟨rfl, hb⟩
                      have HK := Lib.hid (newer_trans (newer_trans HN.out (newer_trans HA.out.2.2.2.2 HNY.out)) hb)
                      clear hb
                      go_wp2_with fail
                      go_ret
                      exact ⟨rfl, HK.out⟩

end Go.Proofs.Ytpmafnifgegfbaa
