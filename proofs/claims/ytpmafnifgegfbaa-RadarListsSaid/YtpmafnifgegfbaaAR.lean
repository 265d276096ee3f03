/- RadarLists walked: it returns true, and leaves what was there. -/
import Derived.Test.YtpmafnifgegfbaaAQ
namespace Go.Proofs.Ytpmafnifgegfbaa
open Go.RowKit Go.Shelf Go.Deep

theorem turn_cases {s : Sd} (h : SdOk s) : (turnE s = 3 ∧ turnLs s = []) ∨ (turnE s = 9 ∧ turnLs s = []) ∨ (turnE s = 0 ∧ turnLs s = turnsN s ∧ turnLs s ≠ [] ∧ (turnLs s).length ≤ 60) := by
  have e := err_iff.2 h
  have e1 : turnE s = posE (allT s) := by unfold turnE; rw [if_pos e]
  by_cases h0 : posE (allT s) = 0
  · have e2 : turnLs s = (allT s).map (turL s.tools) := by unfold turnLs; rw [if_pos (e1.trans h0)]
    refine .inr (.inr ⟨e1.trans h0, e2, ?_, turnLs_few s⟩)
    rw [e2]
    intro hn
    exact (posE_ok h0).2 (List.map_eq_nil_iff.1 hn)
  · have e2 : turnLs s = [] := by unfold turnLs; rw [if_neg (by rw [e1]; exact h0)]
    have h3 : posE (allT s) = 3 ∨ posE (allT s) = 9 := by
      unfold posE at h0 ⊢
      split
      · exact .inl rfl
      · split
        · exact .inr rfl
        · rename_i a b; rw [if_neg a, if_neg b] at h0; exact absurd rfl h0
    rcases h3 with h3 | h3
    · exact .inl ⟨e1.trans h3, e2⟩
    · exact .inr (.inl ⟨e1.trans h3, e2⟩)
set_option maxRecDepth 100000 in
set_option maxHeartbeats 4000000 in
theorem radarLists_walk (y : Sm) (sl : List Sml) (sla : Option Addr) (slc an : Nat) (w : World) (hok : SmOk y w) (hsl : Row smlL 1 w w.heap.size sla sl) (han : an ≤ 255) : Calls Try.prog 6 #[smV y, .slice sla sl.length slc, .int .u8 (an : Int)] w fun e w' => e = .returned (.bool true) ∧ newer w w' := by
  have hnw := newer_allocH w (.cells (smC y) 26)
  have hxb := Whole.made w 26 (smC y)
  have HRD := Lib.hid (ready_any y _ (hok.next hnw))
  have HN0 := Lib.hid (And.intro hnw hxb)
  have HOK0 := Lib.hid hok
  have HSL0 := Lib.hid hsl
  obtain ⟨i0, hi0, hz0, hz1, hz2⟩ := info_parts info_int
  have HI := Lib.hid (And.intro hi0 (And.intro hz0 (And.intro hz1 hz2)))
  have x0 := hxb.at 0 (v := .slice y.sa y.s.spots.length y.sc) rfl
  have x1 := hxb.at 1 (v := vi y.s.strain) rfl
  have x2 := hxb.at 2 (v := .slice y.ta y.s.tools.length y.tc) rfl
  have x3 := hxb.at 3 (v := vi y.s.day) rfl
  have x4 := hxb.at 4 (v := .slice y.ra y.s.reads.length y.rc) rfl
  clear hok hnw hxb hsl hi0 hz0 hz1 hz2
  cases ht : readyB y.s with
  | false =>
    rw [ht] at HRD
    clear ht
    go_enter Try.func6, Try.ntmps6
    go_wp2_with fail
    refine (HRD.out).mono ?_
    rintro e w1 ⟨rfl, hb1⟩
    have HN := Lib.hid (newer_trans HN0.out.1 hb1)
    clear hb1 HRD HN0 x0 x1 x2 x3 x4
    go_wp2_with fail
    refine (awake_any _).mono ?_
    rintro e wk ⟨rfl, hb⟩
    have HK := Lib.hid (newer_trans (HN.out) hb)
    clear hb
    go_wp2_with fail
    go_ret
    exact ⟨rfl, HK.out⟩
  | true =>
    have HFW := Lib.hid (ready_parts ht).1
    have HSD := Lib.hid (ready_parts ht).2.1
    rw [ht] at HRD
    clear ht
    by_cases h10 : sl.length ≤ 10
    case neg =>
      have hgt : 10 < sl.length := by omega
      go_enter Try.func6, Try.ntmps6
      go_wp2_with fail
      refine (HRD.out).mono ?_
      rintro e w1 ⟨rfl, hb1⟩
      have HN := Lib.hid (newer_trans HN0.out.1 hb1)
      clear hb1 HRD HN0 x0 x1 x2 x3 x4
      go_wp2_with fail
      refine (awake_any _).mono ?_
      rintro e wk ⟨rfl, hb⟩
      have HK := Lib.hid (newer_trans (HN.out) hb)
      clear hb
      go_wp2_with fail
      go_ret
      exact ⟨rfl, HK.out⟩
    case pos =>
      have hgt : ¬ 10 < sl.length := by omega
      have HSL10 := Lib.hid h10
      go_enter Try.func6, Try.ntmps6
      go_wp2_with fail
      refine (HRD.out).mono ?_
      rintro e w1 ⟨rfl, hb1⟩
      have hw := HN0.out.2.below hb1 HN0.out.2.lt
      have hn1 := newer_trans HN0.out.1 hb1
      have HOK := Lib.hid (HOK0.out.next hn1)
      have HSL := Lib.hid ((HSL0.out.below hn1).more hn1.size)
      have HB := Lib.hid hw
      have HN := Lib.hid hn1
      clear hb1 HRD HN0 x0 x1 x2 x3 x4 hn1
      have x0 := hw.at 0 (v := .slice y.sa y.s.spots.length y.sc) rfl
      have x1 := hw.at 1 (v := vi y.s.strain) rfl
      have x2 := hw.at 2 (v := .slice y.ta y.s.tools.length y.tc) rfl
      have x3 := hw.at 3 (v := vi y.s.day) rfl
      have x4 := hw.at 4 (v := .slice y.ra y.s.reads.length y.rc) rfl
      clear hw
      go_wp2_with fail
      refine (survey_any y w1 HOK.out HFW.out).mono ?_
      rintro e w2 ⟨sa, sc, ta, tc, ra, rc, rfl, ho, hn⟩
      have H2 := Lib.hid (And.intro ho.ok hn)
      clear ho hn x0 x1 x2 x3 x4
      have HTA := Lib.hid (turns_all ⟨y.s, sa, sc, ta, tc, ra, rc⟩ w2 H2.out.1 (few_s (y := y) rfl HFW.out))
      obtain ⟨F, hF⟩ : ∃ q, q = turnE y.s := ⟨_, rfl⟩
      obtain ⟨TT, hTT⟩ : ∃ q, q = turnLs y.s := ⟨_, rfl⟩
      have hcs := turn_cases HSD.out
      rw [← hF, ← hTT] at hcs
      have HTA2 : Hid (Calls Try.prog 32 #[.agg #[.slice sa y.s.spots.length sc, vi y.s.strain, .slice ta y.s.tools.length tc, vi y.s.day, .slice ra y.s.reads.length rc]] w2 fun e w' => ∃ xs A c, e = .returned (.tuple #[.slice A xs.length c, vi F]) ∧ xs.map (·.l) = TT ∧ LlOwn xs A c w2.heap.size w' ∧ newer w2 w') := Lib.hid (by rw [hF, hTT]; exact HTA.out)
      clear hF hTT HTA
      go_wp2_with fail
      refine (HTA2.out).mono ?_
      rintro e w3 ⟨xs, A3, c3, rfl, hxs, hox, hn⟩
      have hxl : xs.length = TT.length := by rw [← hxs, List.length_map]
      have HXS := Lib.hid (And.intro hxs hxl)
      have HOX := Lib.hid hox
      have HN3 := Lib.hid (newer_trans H2.out.2 hn)
      rw [hxl]
      clear hxs hxl hox hn H2 HTA2
      rcases hcs with ⟨rfl, rfl⟩ | ⟨rfl, rfl⟩ | ⟨rfl, hc1, hc2, hc3⟩
      · rw [List.length_nil]
        go_wp2_with fail
        refine (awake_any _).mono ?_
        rintro e wk ⟨rfl, hb⟩
        have HK := Lib.hid (newer_trans (newer_trans HN.out HN3.out) hb)
        clear hb
        go_wp2_with fail
        go_ret
        exact ⟨rfl, HK.out⟩
      · rw [List.length_nil]
        go_wp2_with fail
        refine (awake_any _).mono ?_
        rintro e wk ⟨rfl, hb⟩
        have HK := Lib.hid (newer_trans (newer_trans HN.out HN3.out) hb)
        clear hb
        go_wp2_with fail
        go_ret
        exact ⟨rfl, HK.out⟩
      · have HTT := Lib.hid (And.intro hc1 (And.intro hc2 hc3))
        obtain ⟨m, hm⟩ : ∃ m, m = TT.length := ⟨_, rfl⟩
        have hm0 : 0 < m := by rw [hm]; exact List.length_pos_iff.2 hc2
        have hmz : ¬ (m : Int) = 0 := by omega
        have hm60 : m ≤ 60 := by rw [hm]; exact hc3
        have HM := Lib.hid hm
        rw [← hm] at HXS ⊢
        obtain ⟨j, hj⟩ : ∃ j, j = an % m := ⟨_, rfl⟩
        have hjm : j < m := by rw [hj]; exact Nat.mod_lt _ hm0
        have hji : (j : Int) < m := by omega
        have ej : (an : Int).tmod m = j := by rw [hj, Int.tmod_eq_emod_of_nonneg (by omega)]; exact (Int.natCast_emod _ _).symm
        have ew : IntKind.i64.wrap (an : Int) = an := IntWalk.i64_in _ (by omega)
        obtain ⟨x, hx⟩ : ∃ x, xs[j]? = some x := ⟨_, List.getElem?_eq_getElem (by rw [HXS.out.2]; exact hjm)⟩
        have hxT : x.l ∈ turnsN y.s := by rw [← hc1, ← HXS.out.1]; exact List.mem_map.2 ⟨x, List.mem_of_getElem? hx, rfl⟩
        have hxl8 : x.l.length ≤ 8 := by rw [turnsN_len HSD.out hxT]; exact Nat.le_trans (List.length_filter_le _ _) HSD.out.few
        obtain ⟨ab, ao, e1, _, ca⟩ := rowLn HOX.out.ok.row hx
        have HX := Lib.hid (And.intro (HOX.out.ok.inn x (List.mem_of_getElem? hx)) (And.intro hxT hxl8))
        have HE1 := Lib.hid e1
        clear hc1 hc2 hc3 hm hj hx hxT hxl8
        have x0 := (HB.out.below HN3.out HB.out.lt).at 0 (v := .slice y.sa y.s.spots.length y.sc) rfl
        have x1 := (HB.out.below HN3.out HB.out.lt).at 1 (v := vi y.s.strain) rfl
        have x2 := (HB.out.below HN3.out HB.out.lt).at 2 (v := .slice y.ta y.s.tools.length y.tc) rfl
        have x3 := (HB.out.below HN3.out HB.out.lt).at 3 (v := vi y.s.day) rfl
        have x4 := (HB.out.below HN3.out HB.out.lt).at 4 (v := .slice y.ra y.s.reads.length y.rc) rfl
        rw [e1]
        clear e1
        go_wp2_with fail
        refine (certain_any y x.l x.a x.c w3 (HOK.out.next HN3.out) HFW.out HSD.out (by have := HX.out.2.2; omega) HX.out.1).mono ?_
        rintro e w4 ⟨sa1, ta1, ra1, sc1, tc1, rc1, ok1, rfl, hnc, hco⟩
        have HNC1 := Lib.hid hnc
        have HCO1 := Lib.hid hco
        clear hnc hco x0 x1 x2 x3 x4 ca
        cases ok1 with
        | false =>
          go_upto_region 16 with fail
          refine genQ (fun X => newer w3 X) (newer_trans HNC1.out (newer_allocH w4 _)) ?_
          intro w5 hn53
          have HN53 := Lib.hid hn53
          have HN5w := Lib.hid (newer_trans HN3.out hn53)
          clear hn53 HCO1
          go_wp2_with fail
          go_loopw [14, 15] (fun s14 s15 wx => ∃ (k : Nat) (B : Option Addr) (d : Nat), k ≤ sl.length ∧ s15 = vi k ∧ s14 = .slice B k d ∧ wx.ownsRow w5.heap.size 3 1 (.slice B k d) k ((sl.take k).map fun x => vi x.n) ∧ newer w5 wx) (fun _ s15 _ => sl.length - (intOf s15).toNat)
          case atStart => exact ⟨0, none, 0, Nat.zero_le _, rfl, rfl, ⟨rfl, .inl ⟨rfl, rfl⟩⟩, newer_refl _⟩
          case round =>
            obtain ⟨k, B, d, hk, rfl, rfl, hown, hnx⟩ := hrel
            have HJ := Lib.hid (And.intro hown hnx)
            by_cases hlt : k < sl.length
            case pos =>
              have hks : (k : Int) < sl.length := by omega
              obtain ⟨c, hc⟩ : ∃ c, sl[k]? = some c := ⟨_, List.getElem?_eq_getElem hlt⟩
              have HCC := Lib.hid hc
              obtain ⟨sb, so, es, _, s0⟩ := row_small (HSL.out.below (newer_trans HN5w.out hnx)) hc
              have hc1 := c.lo
              have hc2 := c.hi
              have ecw : IntKind.i64.wrap c.n = c.n := IntWalk.i64_in _ (by omega)
              have HCW : Hid (Whole (wr.alloc (.cells #[vi c.n] 3)) wr.heap.size 3 #[vi c.n]) := Lib.hid (Whole.made _ _ _)
              have HO := Lib.hid (own_below hown (newer_allocH wr (.cells #[vi c.n] 3)))
              have HSZ := Lib.hid (show w5.heap.size ≤ (wr.alloc (.cells #[vi c.n] 3)).heap.size by have := hnx.size; rw [World.size_alloc]; omega)
              rw [es]
              clear hown hnx hc
              go_wp2_with (at_builtin; go_loud ((refine wpList_plain rfl fun _ hK => wp_append_one (.tmp 83) (.tmp 89) 24 rfl w5.heap.size 3 i0 (.int .i64 0) 8 Try.underlying24 HI.out.1 HI.out.2.1 HI.out.2.2.1 HI.out.2.2.2 rfl B k d ((sl.take k).map fun x => vi x.n) rfl HO.out ⟨wr.heap.size, 0, none⟩ 1 (vi c.n) rfl (HCW.out.at 0 rfl) rfl (by have := HSL10.out; unfold maxLen; omega) (by have := HSL10.out; omega) HSZ.out fun g2 c2 w5 hown hwh => hK _ _ ?_); have HE := Lib.hid (And.intro hown (below_row (newer_trans HJ.out.2 (newer_allocH wr (.cells #[vi c.n] 3))) HO.out (Onto1.grown (A := B) (c := d) (n := k) hwh) (Nat.le_refl _))); clear hown hwh))
              refine ⟨⟨k + 1, _, c2, by omega, rfl, rfl, by have h := HE.out.1; rw [show (sl.take k).map (fun x => vi x.n) ++ [vi c.n] = (sl.take (k + 1)).map (fun x => vi x.n) by rw [List.take_add_one, HCC.out, List.map_append]; rfl] at h; exact h, HE.out.2⟩, ?_⟩
              simp [intOf]
              omega
            case neg =>
              obtain rfl : k = sl.length := by omega
              have hge : ¬ (sl.length : Int) < sl.length := by omega
              obtain ⟨ol, hol⟩ : ∃ ol : List Int, ol = sl.map (·.n) := ⟨_, rfl⟩
              have holl : sl.length = ol.length := by rw [hol, List.length_map]
              have how : wr.ownsRow w5.heap.size 3 1 (.slice B ol.length d) ol.length (ol.flatMap intL) := by
                have h := hown
                rw [List.take_length] at h
                rw [← holl, map_vi, hol, List.map_map]
                exact h
              have HOW := Lib.hid (row_of_own (enc := intL) (size := 1) (by decide) (fun _ => rfl) how)
              have HNW := Lib.hid (newer_trans HN5w.out hnx)
              have HO10 := Lib.hid (show ol.length ≤ 10 by rw [← holl]; exact HSL10.out)
              rw [holl] at hge ⊢
              obtain ⟨wy, hwy⟩ : ∃ wy, wy = wr := ⟨_, rfl⟩
              have HNX := Lib.hid hnx
              rw [← hwy] at HOW HNW HNX ⊢
              clear hown hnx hol holl how HJ hwy hlt hk
              have x0 := (HB.out.below HNW.out HB.out.lt).at 0 (v := .slice y.sa y.s.spots.length y.sc) rfl
              have x1 := (HB.out.below HNW.out HB.out.lt).at 1 (v := vi y.s.strain) rfl
              have x2 := (HB.out.below HNW.out HB.out.lt).at 2 (v := .slice y.ta y.s.tools.length y.tc) rfl
              have x3 := (HB.out.below HNW.out HB.out.lt).at 3 (v := vi y.s.day) rfl
              have x4 := (HB.out.below HNW.out HB.out.lt).at 4 (v := .slice y.ra y.s.reads.length y.rc) rfl
              go_wp2_with fail
              refine (certain_any y ol B d wy (HOK.out.next HNW.out) HFW.out HSD.out (by have := HO10.out; omega) HOW.out).mono ?_
              rintro e wc ⟨sa2, ta2, ra2, sc2, tc2, rc2, ok2, rfl, hnc, hco⟩
              have HCO := Lib.hid hco
              have HNC := Lib.hid hnc
              have HNWC := Lib.hid (newer_trans HNW.out hnc)
              clear hnc hco x0 x1 x2 x3 x4
              cases ok2 with
              | false =>
                go_wp2_with fail
                refine (awake_any _).mono ?_
                rintro e wk ⟨rfl, hb⟩
                have HK := Lib.hid (newer_trans HN.out (newer_trans HNWC.out (newer_trans (newer_allocH wc (.cells #[.slice sa2 y.s.spots.length sc2, vi y.s.strain, .slice ta2 y.s.tools.length tc2, vi y.s.day, .slice ra2 y.s.reads.length rc2] 40)) hb)))
                clear hb
                go_wp2_with fail
                go_ret
                exact ⟨rfl, HK.out⟩
              | true =>
                obtain ⟨hc1, hc2⟩ := HCO.out rfl
                have hn1 := newer_allocH wc (.cells #[.slice sa2 y.s.spots.length sc2, vi y.s.strain, .slice ta2 y.s.tools.length tc2, vi y.s.day, .slice ra2 y.s.reads.length rc2] 40)
                have hlaw := cert_law HSD.out hc1.1 hc1.2
                obtain ⟨Z, hZ⟩ : ∃ Z : Sm, Z = ⟨certN y.s ol y.s.tools.length, sa2, sc2, ta2, tc2, ra2, rc2⟩ := ⟨_, rfl⟩
                rw [← hZ] at hc2
                have hsz : smV Z = .agg #[.slice sa2 y.s.spots.length sc2, vi y.s.strain, .slice ta2 y.s.tools.length tc2, vi y.s.day, .slice ra2 y.s.reads.length rc2] := by
                  have h := cert_len y.s ol y.s.tools.length
                  rw [hZ]
                  show Value.agg #[.slice _ (certN y.s ol y.s.tools.length).spots.length _, vi (certN y.s ol y.s.tools.length).strain, .slice _ (certN y.s ol y.s.tools.length).tools.length _, vi (certN y.s ol y.s.tools.length).day, .slice _ (certN y.s ol y.s.tools.length).reads.length _] = _
                  rw [h.1, h.2.1, h.2.2.1, h.2.2.2.1, h.2.2.2.2]
                have hzf : SmFew Z := by
                  have h := cert_len y.s ol y.s.tools.length
                  rw [hZ]
                  exact ⟨by show (certN y.s ol y.s.tools.length).spots.length ≤ _; rw [h.2.2.1]; exact HFW.out.sp, by show (certN y.s ol y.s.tools.length).tools.length ≤ _; rw [h.1]; exact HFW.out.tl, by show (certN y.s ol y.s.tools.length).reads.length ≤ _; rw [h.2.1]; exact HFW.out.rd⟩
                obtain ⟨hs, hhs⟩ : ∃ b, b = decide (ol ∈ TT) := ⟨_, rfl⟩
                obtain ⟨E9, hE9⟩ : ∃ q : Int, q = if hs = true then 0 else 9 := ⟨_, rfl⟩
                have hE : learnE Z.s = E9 := by
                  rw [hZ, hE9]
                  unfold learnE
                  rw [if_pos (err_iff.2 hlaw.1), hlaw.2, hhs, HTT.out.1]
                have hL := learn_all Z _ (hc2.next hn1) hzf
                rw [hsz, hE] at hL
                have HL := Lib.hid hL
                have hls : ∀ W, newer wy W → Calls Try.prog 40 #[.slice (some ⟨ab, ao, none⟩) m c3, .slice B ol.length d] W fun e w' => e = .returned (.tuple #[.bool hs, .bool true]) ∧ newer W w' := fun W hW => by
                  have h := listed_any xs ol A3 B c3 d W (by have := HO10.out; omega) (by rw [HXS.out.2]; omega) (fun x hx => by
                    have h1 : x.l ∈ TT := by rw [← HXS.out.1]; exact List.mem_map.2 ⟨x, hx, rfl⟩
                    rw [HTT.out.1] at h1
                    rw [turnsN_len HSD.out h1, hc1.1]) (by rw [HXS.out.1, HTT.out.1]; exact turnsN_sorted HSD.out) (HOX.out.ok.next (newer_trans HN53.out (newer_trans HNX.out hW))) ((HOW.out.below hW).more hW.size)
                  rw [HXS.out.1, ← hhs, HXS.out.2, HE1.out] at h
                  exact h
                have HLS := Lib.hid hls
                have HE9 := Lib.hid hE9
                clear hc1 hc2 hn1 hlaw hsz hzf hhs hE hL hls hZ HCO hE9
                go_wp2_with fail
                refine (HL.out).mono ?_
                rintro e wl ⟨B5, d5, rfl, _, hn⟩
                have HN5 := Lib.hid (newer_trans HNC.out (newer_trans (newer_allocH wc (.cells #[.slice sa2 y.s.spots.length sc2, vi y.s.strain, .slice ta2 y.s.tools.length tc2, vi y.s.day, .slice ra2 y.s.reads.length rc2] 40)) hn))
                clear hn HL
                go_wp2_with fail
                refine (HLS.out wl HN5.out).mono ?_
                rintro e wm ⟨rfl, hn⟩
                have HN6 := Lib.hid (newer_trans HNW.out (newer_trans HN5.out hn))
                clear hn
                cases hs with
                | false =>
                  obtain rfl : E9 = 9 := HE9.out
                  clear HE9
                  go_wp2_with fail
                  refine (awake_any _).mono ?_
                  rintro e wk ⟨rfl, hb⟩
                  have HK := Lib.hid (newer_trans (newer_trans HN.out HN6.out) hb)
                  clear hb
                  go_wp2_with fail
                  go_ret
                  exact ⟨rfl, HK.out⟩
                | true =>
                  obtain rfl : E9 = 0 := HE9.out
                  clear HE9
                  go_wp2_with fail
                  refine (awake_any _).mono ?_
                  rintro e wk ⟨rfl, hb⟩
                  have HK := Lib.hid (newer_trans (newer_trans HN.out HN6.out) hb)
                  clear hb
                  go_wp2_with fail
                  go_ret
                  exact ⟨rfl, HK.out⟩
        | true =>
          obtain ⟨hc1, hc2⟩ := HCO1.out rfl
          have hn1 := newer_allocH w4 (.cells #[.slice sa1 y.s.spots.length sc1, vi y.s.strain, .slice ta1 y.s.tools.length tc1, vi y.s.day, .slice ra1 y.s.reads.length rc1] 40)
          have hlaw := cert_law HSD.out hc1.1 hc1.2
          obtain ⟨Z, hZ⟩ : ∃ Z : Sm, Z = ⟨certN y.s x.l y.s.tools.length, sa1, sc1, ta1, tc1, ra1, rc1⟩ := ⟨_, rfl⟩
          rw [← hZ] at hc2
          have hsz : smV Z = .agg #[.slice sa1 y.s.spots.length sc1, vi y.s.strain, .slice ta1 y.s.tools.length tc1, vi y.s.day, .slice ra1 y.s.reads.length rc1] := by
            have h := cert_len y.s x.l y.s.tools.length
            rw [hZ]
            show Value.agg #[.slice _ (certN y.s x.l y.s.tools.length).spots.length _, vi (certN y.s x.l y.s.tools.length).strain, .slice _ (certN y.s x.l y.s.tools.length).tools.length _, vi (certN y.s x.l y.s.tools.length).day, .slice _ (certN y.s x.l y.s.tools.length).reads.length _] = _
            rw [h.1, h.2.1, h.2.2.1, h.2.2.2.1, h.2.2.2.2]
          have hzf : SmFew Z := by
            have h := cert_len y.s x.l y.s.tools.length
            rw [hZ]
            exact ⟨by show (certN y.s x.l y.s.tools.length).spots.length ≤ _; rw [h.2.2.1]; exact HFW.out.sp, by show (certN y.s x.l y.s.tools.length).tools.length ≤ _; rw [h.1]; exact HFW.out.tl, by show (certN y.s x.l y.s.tools.length).reads.length ≤ _; rw [h.2.1]; exact HFW.out.rd⟩
          have hE : learnE Z.s = 0 := by
            rw [hZ]
            unfold learnE
            rw [if_pos (err_iff.2 hlaw.1), hlaw.2, decide_eq_true HX.out.2.1, if_pos rfl]
          have hL := learn_all Z _ (hc2.next hn1) hzf
          rw [hsz, hE] at hL
          have HL := Lib.hid hL
          clear hc1 hc2 hn1 hlaw hsz hzf hE hL hZ HCO1
          go_wp2_with fail
          refine (HL.out).mono ?_
          rintro e wl ⟨B5, d5, rfl, _, hn⟩
          have HNL := Lib.hid (newer_trans HNC1.out (newer_trans (newer_allocH w4 (.cells #[.slice sa1 y.s.spots.length sc1, vi y.s.strain, .slice ta1 y.s.tools.length tc1, vi y.s.day, .slice ra1 y.s.reads.length rc1] 40)) hn))
          clear hn HL
          go_upto_region 16 with fail
          refine genQ (fun X => newer w3 X) HNL.out ?_
          intro w5 hn53
          have HN53 := Lib.hid hn53
          have HN5w := Lib.hid (newer_trans HN3.out hn53)
          clear hn53 HNL
          go_wp2_with fail
          go_loopw [14, 15] (fun s14 s15 wx => ∃ (k : Nat) (B : Option Addr) (d : Nat), k ≤ sl.length ∧ s15 = vi k ∧ s14 = .slice B k d ∧ wx.ownsRow w5.heap.size 3 1 (.slice B k d) k ((sl.take k).map fun x => vi x.n) ∧ newer w5 wx) (fun _ s15 _ => sl.length - (intOf s15).toNat)
          case atStart => exact ⟨0, none, 0, Nat.zero_le _, rfl, rfl, ⟨rfl, .inl ⟨rfl, rfl⟩⟩, newer_refl _⟩
          case round =>
            obtain ⟨k, B, d, hk, rfl, rfl, hown, hnx⟩ := hrel
            have HJ := Lib.hid (And.intro hown hnx)
            by_cases hlt : k < sl.length
            case pos =>
              have hks : (k : Int) < sl.length := by omega
              obtain ⟨c, hc⟩ : ∃ c, sl[k]? = some c := ⟨_, List.getElem?_eq_getElem hlt⟩
              have HCC := Lib.hid hc
              obtain ⟨sb, so, es, _, s0⟩ := row_small (HSL.out.below (newer_trans HN5w.out hnx)) hc
              have hc1 := c.lo
              have hc2 := c.hi
              have ecw : IntKind.i64.wrap c.n = c.n := IntWalk.i64_in _ (by omega)
              have HCW : Hid (Whole (wr.alloc (.cells #[vi c.n] 3)) wr.heap.size 3 #[vi c.n]) := Lib.hid (Whole.made _ _ _)
              have HO := Lib.hid (own_below hown (newer_allocH wr (.cells #[vi c.n] 3)))
              have HSZ := Lib.hid (show w5.heap.size ≤ (wr.alloc (.cells #[vi c.n] 3)).heap.size by have := hnx.size; rw [World.size_alloc]; omega)
              rw [es]
              clear hown hnx hc
              go_wp2_with (at_builtin; go_loud ((refine wpList_plain rfl fun _ hK => wp_append_one (.tmp 83) (.tmp 89) 24 rfl w5.heap.size 3 i0 (.int .i64 0) 8 Try.underlying24 HI.out.1 HI.out.2.1 HI.out.2.2.1 HI.out.2.2.2 rfl B k d ((sl.take k).map fun x => vi x.n) rfl HO.out ⟨wr.heap.size, 0, none⟩ 1 (vi c.n) rfl (HCW.out.at 0 rfl) rfl (by have := HSL10.out; unfold maxLen; omega) (by have := HSL10.out; omega) HSZ.out fun g2 c2 w5 hown hwh => hK _ _ ?_); have HE := Lib.hid (And.intro hown (below_row (newer_trans HJ.out.2 (newer_allocH wr (.cells #[vi c.n] 3))) HO.out (Onto1.grown (A := B) (c := d) (n := k) hwh) (Nat.le_refl _))); clear hown hwh))
              refine ⟨⟨k + 1, _, c2, by omega, rfl, rfl, by have h := HE.out.1; rw [show (sl.take k).map (fun x => vi x.n) ++ [vi c.n] = (sl.take (k + 1)).map (fun x => vi x.n) by rw [List.take_add_one, HCC.out, List.map_append]; rfl] at h; exact h, HE.out.2⟩, ?_⟩
              simp [intOf]
              omega
            case neg =>
              obtain rfl : k = sl.length := by omega
              have hge : ¬ (sl.length : Int) < sl.length := by omega
              obtain ⟨ol, hol⟩ : ∃ ol : List Int, ol = sl.map (·.n) := ⟨_, rfl⟩
              have holl : sl.length = ol.length := by rw [hol, List.length_map]
              have how : wr.ownsRow w5.heap.size 3 1 (.slice B ol.length d) ol.length (ol.flatMap intL) := by
                have h := hown
                rw [List.take_length] at h
                rw [← holl, map_vi, hol, List.map_map]
                exact h
              have HOW := Lib.hid (row_of_own (enc := intL) (size := 1) (by decide) (fun _ => rfl) how)
              have HNW := Lib.hid (newer_trans HN5w.out hnx)
              have HO10 := Lib.hid (show ol.length ≤ 10 by rw [← holl]; exact HSL10.out)
              rw [holl] at hge ⊢
              obtain ⟨wy, hwy⟩ : ∃ wy, wy = wr := ⟨_, rfl⟩
              have HNX := Lib.hid hnx
              rw [← hwy] at HOW HNW HNX ⊢
              clear hown hnx hol holl how HJ hwy hlt hk
              have x0 := (HB.out.below HNW.out HB.out.lt).at 0 (v := .slice y.sa y.s.spots.length y.sc) rfl
              have x1 := (HB.out.below HNW.out HB.out.lt).at 1 (v := vi y.s.strain) rfl
              have x2 := (HB.out.below HNW.out HB.out.lt).at 2 (v := .slice y.ta y.s.tools.length y.tc) rfl
              have x3 := (HB.out.below HNW.out HB.out.lt).at 3 (v := vi y.s.day) rfl
              have x4 := (HB.out.below HNW.out HB.out.lt).at 4 (v := .slice y.ra y.s.reads.length y.rc) rfl
              go_wp2_with fail
              refine (certain_any y ol B d wy (HOK.out.next HNW.out) HFW.out HSD.out (by have := HO10.out; omega) HOW.out).mono ?_
              rintro e wc ⟨sa2, ta2, ra2, sc2, tc2, rc2, ok2, rfl, hnc, hco⟩
              have HCO := Lib.hid hco
              have HNC := Lib.hid hnc
              have HNWC := Lib.hid (newer_trans HNW.out hnc)
              clear hnc hco x0 x1 x2 x3 x4
              cases ok2 with
              | false =>
                go_wp2_with fail
                refine (awake_any _).mono ?_
                rintro e wk ⟨rfl, hb⟩
                have HK := Lib.hid (newer_trans HN.out (newer_trans HNWC.out (newer_trans (newer_allocH wc (.cells #[.slice sa2 y.s.spots.length sc2, vi y.s.strain, .slice ta2 y.s.tools.length tc2, vi y.s.day, .slice ra2 y.s.reads.length rc2] 40)) hb)))
                clear hb
                go_wp2_with fail
                go_ret
                exact ⟨rfl, HK.out⟩
              | true =>
                obtain ⟨hc1, hc2⟩ := HCO.out rfl
                have hn1 := newer_allocH wc (.cells #[.slice sa2 y.s.spots.length sc2, vi y.s.strain, .slice ta2 y.s.tools.length tc2, vi y.s.day, .slice ra2 y.s.reads.length rc2] 40)
                have hlaw := cert_law HSD.out hc1.1 hc1.2
                obtain ⟨Z, hZ⟩ : ∃ Z : Sm, Z = ⟨certN y.s ol y.s.tools.length, sa2, sc2, ta2, tc2, ra2, rc2⟩ := ⟨_, rfl⟩
                rw [← hZ] at hc2
                have hsz : smV Z = .agg #[.slice sa2 y.s.spots.length sc2, vi y.s.strain, .slice ta2 y.s.tools.length tc2, vi y.s.day, .slice ra2 y.s.reads.length rc2] := by
                  have h := cert_len y.s ol y.s.tools.length
                  rw [hZ]
                  show Value.agg #[.slice _ (certN y.s ol y.s.tools.length).spots.length _, vi (certN y.s ol y.s.tools.length).strain, .slice _ (certN y.s ol y.s.tools.length).tools.length _, vi (certN y.s ol y.s.tools.length).day, .slice _ (certN y.s ol y.s.tools.length).reads.length _] = _
                  rw [h.1, h.2.1, h.2.2.1, h.2.2.2.1, h.2.2.2.2]
                have hzf : SmFew Z := by
                  have h := cert_len y.s ol y.s.tools.length
                  rw [hZ]
                  exact ⟨by show (certN y.s ol y.s.tools.length).spots.length ≤ _; rw [h.2.2.1]; exact HFW.out.sp, by show (certN y.s ol y.s.tools.length).tools.length ≤ _; rw [h.1]; exact HFW.out.tl, by show (certN y.s ol y.s.tools.length).reads.length ≤ _; rw [h.2.1]; exact HFW.out.rd⟩
                obtain ⟨hs, hhs⟩ : ∃ b, b = decide (ol ∈ TT) := ⟨_, rfl⟩
                obtain ⟨E9, hE9⟩ : ∃ q : Int, q = if hs = true then 0 else 9 := ⟨_, rfl⟩
                have hE : learnE Z.s = E9 := by
                  rw [hZ, hE9]
                  unfold learnE
                  rw [if_pos (err_iff.2 hlaw.1), hlaw.2, hhs, HTT.out.1]
                have hL := learn_all Z _ (hc2.next hn1) hzf
                rw [hsz, hE] at hL
                have HL := Lib.hid hL
                have hls : ∀ W, newer wy W → Calls Try.prog 40 #[.slice (some ⟨ab, ao, none⟩) m c3, .slice B ol.length d] W fun e w' => e = .returned (.tuple #[.bool hs, .bool true]) ∧ newer W w' := fun W hW => by
                  have h := listed_any xs ol A3 B c3 d W (by have := HO10.out; omega) (by rw [HXS.out.2]; omega) (fun x hx => by
                    have h1 : x.l ∈ TT := by rw [← HXS.out.1]; exact List.mem_map.2 ⟨x, hx, rfl⟩
                    rw [HTT.out.1] at h1
                    rw [turnsN_len HSD.out h1, hc1.1]) (by rw [HXS.out.1, HTT.out.1]; exact turnsN_sorted HSD.out) (HOX.out.ok.next (newer_trans HN53.out (newer_trans HNX.out hW))) ((HOW.out.below hW).more hW.size)
                  rw [HXS.out.1, ← hhs, HXS.out.2, HE1.out] at h
                  exact h
                have HLS := Lib.hid hls
                have HE9 := Lib.hid hE9
                clear hc1 hc2 hn1 hlaw hsz hzf hhs hE hL hls hZ HCO hE9
                go_wp2_with fail
                refine (HL.out).mono ?_
                rintro e wl ⟨B5, d5, rfl, _, hn⟩
                have HN5 := Lib.hid (newer_trans HNC.out (newer_trans (newer_allocH wc (.cells #[.slice sa2 y.s.spots.length sc2, vi y.s.strain, .slice ta2 y.s.tools.length tc2, vi y.s.day, .slice ra2 y.s.reads.length rc2] 40)) hn))
                clear hn HL
                go_wp2_with fail
                refine (HLS.out wl HN5.out).mono ?_
                rintro e wm ⟨rfl, hn⟩
                have HN6 := Lib.hid (newer_trans HNW.out (newer_trans HN5.out hn))
                clear hn
                cases hs with
                | false =>
                  obtain rfl : E9 = 9 := HE9.out
                  clear HE9
                  go_wp2_with fail
                  refine (awake_any _).mono ?_
                  rintro e wk ⟨rfl, hb⟩
                  have HK := Lib.hid (newer_trans (newer_trans HN.out HN6.out) hb)
                  clear hb
                  go_wp2_with fail
                  go_ret
                  exact ⟨rfl, HK.out⟩
                | true =>
                  obtain rfl : E9 = 0 := HE9.out
                  clear HE9
                  go_wp2_with fail
                  refine (awake_any _).mono ?_
                  rintro e wk ⟨rfl, hb⟩
                  have HK := Lib.hid (newer_trans (newer_trans HN.out HN6.out) hb)
                  clear hb
                  go_wp2_with fail
                  go_ret
                  exact ⟨rfl, HK.out⟩

end Go.Proofs.Ytpmafnifgegfbaa
