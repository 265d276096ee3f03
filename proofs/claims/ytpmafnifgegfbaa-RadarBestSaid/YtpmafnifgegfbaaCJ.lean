/- RadarBest walked: it returns true, and leaves what was there. -/
import Derived.Test.YtpmafnifgegfbaaCI
import Derived.Test.YtpmafnifgegfbaaBA
import Derived.Test.YtpmafnifgegfbaaBB
import Derived.Test.YtpmafnifgegfbaaCF
namespace Go.Proofs.Ytpmafnifgegfbaa
open Go.RowKit Go.Shelf Go.Deep

/-- Tools for the program. -/
def vTools (ts : List Tl) (v : Value) (W : World) : Prop := ∃ B d, v = .slice B ts.length d ∧ Row tlL 7 W W.heap.size B ts
theorem vTools_st {ts : List Tl} : ∀ v W W', vTools ts v W → newer W W' → vTools ts v W' := fun _ _ _ ⟨B, d, h1, h2⟩ hb => ⟨B, d, h1, (h2.below hb).more hb.size⟩
theorem row_one {α : Type} {enc : α → List Value} {s : Nat} {w : World} {B b off : Nat} {l : List α} (h : Row enc s w B (some ⟨b, off, none⟩) l) {k : Nat} {x : α} (hk : l[k]? = some x) : Row enc s w B (some ⟨b, off + k * s, none⟩) [x] := fun _ => by
  obtain ⟨b', o', e, hb, hc⟩ := h (fun e => by rw [e] at hk; simp at hk)
  injection e with e
  injection e with e1 e2
  subst e1 e2
  refine ⟨b, off + k * s, rfl, hb, fun i y hy j u hu => ?_⟩
  cases i with
  | zero =>
    obtain rfl : x = y := Option.some.inj hy
    have h1 := hc k x hk j u hu
    rw [Nat.zero_mul, Nat.add_zero]
    exact h1
  | succ i => simp at hy
theorem intL_oneB (n : Int) : ∀ u ∈ intL n, u.oneCell' = true := by
  intro u hu
  obtain rfl := List.mem_singleton.1 hu
  rfl
theorem listsR_neB {s : Sd} {f : List Mv} (hw : ∀ (j : Nat) (t : Tl), s.tools[j]? = some t → waysN s j t (fnL f t.spot.toNat) ≠ []) : ∀ (r tool : Nat) (b : List Int), tool + r ≤ s.tools.length → listsR s f r tool b ≠ []
  | 0, _, b, _ => by simp [listsR]
  | r + 1, tool, b, h => by
    obtain ⟨t, ht⟩ : ∃ t, s.tools[tool]? = some t := ⟨_, List.getElem?_eq_getElem (by omega)⟩
    rw [listsR, ht]
    show (if t.turn = 0 then _ else _) ≠ []
    split
    · exact listsR_neB hw r _ b (by omega)
    · intro e
      obtain ⟨k, hk⟩ := List.exists_mem_of_ne_nil _ (hw tool t ht)
      exact listsR_neB hw r (tool + 1) (b ++ [k]) (by omega) (List.flatMap_eq_nil_iff.1 e k hk)
theorem full_ks {s : Sd} (h : SdOk s) {f : List Mv} (hf : f ∈ allR s) : ∃ ks : List (Option Int), ks.length = s.tools.length ∧ (∀ (j : Nat) (t : Tl), s.tools[j]? = some t → turnOk t (ks.getD j none)) ∧ Agree s ks (fnL f) := by
  have h1 := (Bool.and_eq_true _ _ ▸ mem_all.1 hf : isFieldB s f = true ∧ waysB s f = true).2
  obtain ⟨l, hl⟩ := List.exists_mem_of_ne_nil _ (listsR_neB (s := s) (f := f) (fun j t ht e => by
    have h2 := List.all_eq_true.1 h1 j (List.mem_range.2 (List.getElem?_eq_some_iff.1 ht).1)
    rw [ht] at h2
    simp [e] at h2) s.tools.length 0 [] (by omega))
  obtain ⟨ks, h2, _, h3⟩ := (mem_lists _ _ _ (by omega)).1 hl
  obtain ⟨h4, h5⟩ := (lists_agree h hf).1 h3
  exact ⟨ks, h2, h5, h4⟩
set_option maxRecDepth 100000 in
set_option maxHeartbeats 8000000 in
theorem radarBest_walk (y : Sm) (ts : List Tl) (A : Option Addr) (c : Nat) (ws : List Hlf) (WB : Option Addr) (wc : Nat) (bn : Nat) (w : World) (hok : SmOk y w) (hts : Row tlL 7 w w.heap.size A ts) (hcap : ts.length ≤ c) (hwl : ws.length ≤ maxLen) (hr : Row hwL 1 w w.heap.size WB ws) (hbn : bn ≤ 65535) : Calls Try.prog 15 #[smV y, .slice A ts.length c, .slice WB ws.length wc, .int .u16 (bn : Int)] w fun e w' => e = .returned (.bool true) ∧ newer w w' := by
  have hnw := newer_allocH w (.cells (smC y) 26)
  have hxb := Whole.made w 26 (smC y)
  have HRD := Lib.hid (ready_any y _ (hok.next hnw))
  have HN0 := Lib.hid (And.intro hnw hxb)
  have HOK := Lib.hid hok
  have HTS := Lib.hid hts
  have HCAP := Lib.hid hcap
  have HR := Lib.hid hr
  have HWL := Lib.hid hwl
  have HBN := Lib.hid hbn
  have x0 := hxb.at 0 (v := .slice y.sa y.s.spots.length y.sc) rfl
  have x1 := hxb.at 1 (v := vi y.s.strain) rfl
  have x2 := hxb.at 2 (v := .slice y.ta y.s.tools.length y.tc) rfl
  have x3 := hxb.at 3 (v := vi y.s.day) rfl
  have x4 := hxb.at 4 (v := .slice y.ra y.s.reads.length y.rc) rfl
  clear hok hnw hxb hr hwl hts hcap hbn
  cases ht : readyB y.s with
  | false =>
    rw [ht] at HRD
    clear ht
    go_enter Try.func15, Try.ntmps15
    go_wp2_with fail
    refine (HRD.out).mono ?_
    rintro e w1 ⟨rfl, hb1⟩
    have HN := Lib.hid (newer_trans HN0.out.1 hb1)
    clear hb1 HRD HN0 x0 x1 x2 x3 x4
    go_wp2_with fail
    refine (awake_any _).mono ?_
    rintro e wk ⟨rfl, hb⟩
    have HK := Lib.hid (newer_trans (HN.out) hb)
    clear hb
    go_wp2_with fail
    go_ret
    exact ⟨rfl, HK.out⟩
  | true =>
    have HFW := Lib.hid (ready_parts ht).1
    have HSD := Lib.hid (ready_parts ht).2.1
    rw [ht] at HRD
    clear ht
    go_enter Try.func15, Try.ntmps15
    go_wp2_with fail
    refine (HRD.out).mono ?_
    rintro e w1 ⟨rfl, hb1⟩
    have HB := Lib.hid (HN0.out.2.below hb1 HN0.out.2.lt)
    have HN := Lib.hid (newer_trans HN0.out.1 hb1)
    clear hb1 HRD HN0 x0 x1 x2 x3 x4
    by_cases hl : (10 : Int) < ts.length
    case pos =>
      go_wp2_with fail
      refine (awake_any _).mono ?_
      rintro e wk ⟨rfl, hb⟩
      have HK := Lib.hid (newer_trans (HN.out) hb)
      clear hb
      go_wp2_with fail
      go_ret
      exact ⟨rfl, HK.out⟩
    case neg =>
      have H10 := Lib.hid (show ts.length ≤ 10 by omega)
      have x0 := HB.out.at 0 (v := .slice y.sa y.s.spots.length y.sc) rfl
      have x1 := HB.out.at 1 (v := vi y.s.strain) rfl
      have x2 := HB.out.at 2 (v := .slice y.ta y.s.tools.length y.tc) rfl
      have x3 := HB.out.at 3 (v := vi y.s.day) rfl
      have x4 := HB.out.at 4 (v := .slice y.ra y.s.reads.length y.rc) rfl
      go_wp2_with fail
      refine (staked_any y ts A c _ (HOK.out.next HN.out) HFW.out H10.out ((HTS.out.below HN.out).more HN.out.size)).mono ?_
      rintro e wS ⟨rfl, hb⟩
      have HNS := Lib.hid (newer_trans HN.out hb)
      have HBS := Lib.hid (HB.out.below hb HB.out.lt)
      clear hb x0 x1 x2 x3 x4
      by_cases hE : stakeE y.s ts = 0
      case neg =>
        obtain ⟨E, hEE⟩ : ∃ q, q = stakeE y.s ts := ⟨_, rfl⟩
        rw [← hEE] at hE ⊢
        have hEb : (E != 0) = true := by simp [bne, hE]
        clear hEE
        go_wp2_with fail
        refine (awake_any _).mono ?_
        rintro e wk ⟨rfl, hb⟩
        have HK := Lib.hid (newer_trans (HNS.out) hb)
        clear hb
        go_wp2_with fail
        go_ret
        exact ⟨rfl, HK.out⟩
      case pos =>
        have HST := Lib.hid hE
        rw [hE]
        clear hE
        have x0 := HBS.out.at 0 (v := .slice y.sa y.s.spots.length y.sc) rfl
        have x1 := HBS.out.at 1 (v := vi y.s.strain) rfl
        have x2 := HBS.out.at 2 (v := .slice y.ta y.s.tools.length y.tc) rfl
        have x3 := HBS.out.at 3 (v := vi y.s.day) rfl
        have x4 := HBS.out.at 4 (v := .slice y.ra y.s.reads.length y.rc) rfl
        go_wp2_with fail
        refine (truthP_any y ws WB wc wS (HOK.out.next HNS.out) HSD.out HWL.out ((HR.out.below HNS.out).more HNS.out.size)).mono ?_
        rintro e w2 hT
        clear x0 x1 x2 x3 x4
        rcases hT with ⟨f, fa, fc, hT1, rfl, hT2, hn⟩ | ⟨_, rfl, hn⟩
        case inr =>
          have HN2 := Lib.hid (newer_trans HNS.out hn)
          clear hn
          go_wp2_with fail
          refine (awake_any _).mono ?_
          rintro e wk ⟨rfl, hb⟩
          have HK := Lib.hid (newer_trans (HN2.out) hb)
          clear hb
          go_wp2_with fail
          go_ret
          exact ⟨rfl, HK.out⟩
        case inl =>
          have HF := Lib.hid (truth_field hT1)
          have HFR := Lib.hid (row_of_own (enc := mvL) (size := 2) (by decide) (fun _ => rfl) hT2)
          have H2 := Lib.hid hn
          have HN2 := Lib.hid (newer_trans HNS.out hn)
          clear hT1 hT2 hn
          have x0 := (HBS.out.below H2.out HBS.out.lt).at 0 (v := .slice y.sa y.s.spots.length y.sc) rfl
          have x1 := (HBS.out.below H2.out HBS.out.lt).at 1 (v := vi y.s.strain) rfl
          have x2 := (HBS.out.below H2.out HBS.out.lt).at 2 (v := .slice y.ta y.s.tools.length y.tc) rfl
          have x3 := (HBS.out.below H2.out HBS.out.lt).at 3 (v := vi y.s.day) rfl
          have x4 := (HBS.out.below H2.out HBS.out.lt).at 4 (v := .slice y.ra y.s.reads.length y.rc) rfl
          go_wp2_with fail
          refine (seenP_any y f fa fc ws WB wc w2 (HOK.out.next HN2.out) HSD.out HF.out.1 HF.out.2 HFR.out HWL.out ((HR.out.below HN2.out).more HN2.out.size)).mono ?_
          rintro e w3 hT
          clear x0 x1 x2 x3 x4
          rcases hT with ⟨rd, l, RA, rc2, LA, lc, hT1, rfl, hT2, hn⟩ | ⟨_, rfl, hn⟩
          case inr =>
            have HN3 := Lib.hid (newer_trans HN2.out hn)
            clear hn
            go_wp2_with fail
            refine (awake_any _).mono ?_
            rintro e wk ⟨rfl, hb⟩
            have HK := Lib.hid (newer_trans (HN3.out) hb)
            clear hb
            go_wp2_with fail
            go_ret
            exact ⟨rfl, HK.out⟩
          case inl =>
            obtain ⟨hrl, htu, hmd⟩ := seen_made HSD.out hT1
            obtain ⟨hxo, hag, hak, hin⟩ := truth_law HSD.out HF.out.2 hrl (ksW_len y.s ws _) hmd
            rw [htu] at hin
            have HX := Lib.hid (And.intro hxo (And.intro hag hin))
            have HAK := Lib.hid hak
            have HRL := Lib.hid hrl
            have HTW := Lib.hid hT2
            have H3 := Lib.hid (newer_trans H2.out hn)
            have HN3 := Lib.hid (newer_trans HN2.out hn)
            have HFR3 := Lib.hid ((HFR.out.below hn).more hn.size)
            clear hrl htu hmd hxo hag hak hin hT1 hT2 hn HFR
            have x0 := (HBS.out.below H3.out HBS.out.lt).at 0 (v := .slice y.sa y.s.spots.length y.sc) rfl
            have x1 := (HBS.out.below H3.out HBS.out.lt).at 1 (v := vi y.s.strain) rfl
            have x2 := (HBS.out.below H3.out HBS.out.lt).at 2 (v := .slice y.ta y.s.tools.length y.tc) rfl
            have x3 := (HBS.out.below H3.out HBS.out.lt).at 3 (v := vi y.s.day) rfl
            have x4 := (HBS.out.below H3.out HBS.out.lt).at 4 (v := .slice y.ra y.s.reads.length y.rc) rfl
            go_wp2_with fail
            refine (survey_any y w3 (HOK.out.next HN3.out) HFW.out).mono ?_
            rintro e w4 ⟨sa, sc, ta, tc, ra, rc, rfl, ho, hn⟩
            have H4 := Lib.hid (And.intro ho hn)
            clear ho hn x0 x1 x2 x3 x4
            go_upto_region 10 with fail
            obtain ⟨xb, hxb⟩ : ∃ q, q = w4.heap.size := ⟨_, rfl⟩
            rw [← hxb]
            refine genQ (fun X => newer w4 X ∧ Whole X xb 40 #[.slice sa y.s.spots.length sc, vi y.s.strain, .slice ta y.s.tools.length tc, vi y.s.day, .slice ra y.s.reads.length rc]) ⟨newer_allocH _ _, by rw [hxb]; exact Whole.made _ _ _⟩ ?_
            rintro w5 ⟨hn5, hx5⟩
            have z4 := hx5.at 4 (v := .slice ra y.s.reads.length rc) rfl
            have f4 := hx5.free 4
            have H5 := Lib.hid (And.intro (newer_trans H4.out.2 hn5) (And.intro hx5 (H4.out.1.next hn5)))
            have HXB := Lib.hid (show w3.heap.size ≤ xb by rw [hxb]; exact H4.out.2.size)
            clear hn5 hx5 hxb H4
            go_upto_region 11 with fail
            obtain ⟨X, hX⟩ : ∃ X : Sm, X = ⟨{ y.s with reads := rd }, sa, sc, ta, tc, RA, rc2⟩ := ⟨_, rfl⟩
            have hXs : X.s = { y.s with reads := rd } := by rw [hX]
            have hXv : smV X = .agg #[.slice sa y.s.spots.length sc, vi y.s.strain, .slice ta y.s.tools.length tc, vi y.s.day, .slice RA rd.length rc2] := by rw [hX]
            have hfar : ∀ {e : TypeId} {q s n : Nat} {v : Value} {ys : List Value}, w5.ownsRow q e s v n ys → e ≠ 40 → (w5.setCell ⟨xb, 4, none⟩ (.slice RA rd.length rc2)).ownsRow q e s v n ys := fun hv hne => own_set hv (own_ne hv H5.out.2.1 hne) _
            refine genQ (fun Y => newer w3 Y ∧ Whole Y xb 40 #[.slice sa y.s.spots.length sc, vi y.s.strain, .slice ta y.s.tools.length tc, vi y.s.day, .slice RA rd.length rc2] ∧ SmOk X Y ∧ Y.ownsRow w3.heap.size 56 4 (.slice sa y.s.spots.length sc) y.s.spots.length (y.s.spots.flatMap spL) ∧ Y.ownsRow w3.heap.size 112 7 (.slice ta y.s.tools.length tc) y.s.tools.length (y.s.tools.flatMap tlL)) ⟨H5.out.1.setCell (p := ⟨xb, 4, none⟩) HXB.out _, H5.out.2.1.set 4 _, ?_, hfar H5.out.2.2.sp (by decide), hfar H5.out.2.2.tl (by decide)⟩ ?_
            · rw [hX]
              exact ⟨row_of_own (enc := spL) (size := 4) (by decide) (fun _ => rfl) (hfar H5.out.2.2.sp (by decide)), row_of_own (enc := tlL) (size := 7) (by decide) (fun _ => rfl) (hfar H5.out.2.2.tl (by decide)), row_of_own (enc := intL) (size := 1) (by decide) (fun _ => rfl) (by
                have h := hfar (own_below HTW.out.o1 H5.out.1) (by decide)
                rw [← map_vi] at h
                exact h)⟩
            rintro w6 ⟨hn6, hx6, ho6, hsp6, htl6⟩
            have hXf : SmFew X := ⟨by rw [hXs]; exact HFW.out.sp, by rw [hXs]; exact HFW.out.tl, by rw [hXs]; show rd.length ≤ _; rw [HRL.out]; exact HFW.out.tl⟩
            obtain ⟨xs, hxs⟩ : ∃ q : Sd, q = { y.s with reads := rd } := ⟨_, rfl⟩
            rw [← hxs] at hXs
            have HXS := Lib.hid hxs
            have HXD : Hid (SdOk xs) := Lib.hid (by rw [hxs]; exact HX.out.1)
            have HSE : Hid (stakeE xs ts = 0) := Lib.hid (stake_other (s := y.s) (err_iff.2 HXD.out) (by rw [hxs]) (by rw [hxs]) HST.out)
            obtain ⟨F, hF⟩ : ∃ q, q = turnE xs := ⟨_, rfl⟩
            obtain ⟨TT, hTT⟩ : ∃ q, q = turnLs xs := ⟨_, rfl⟩
            have hbe : bestE xs ts = F := by unfold bestE; rw [if_pos HSE.out, hF, turnE_pos HXD.out]
            obtain ⟨P1, hP1⟩ : ∃ q, q = (bestP xs ts).1 := ⟨_, rfl⟩
            obtain ⟨P2, hP2⟩ : ∃ q, q = (bestP xs ts).2 := ⟨_, rfl⟩
            have HBX : Hid (∀ W, newer w6 W → ∀ B d, Row tlL 7 W W.heap.size B ts → Calls Try.prog 53 #[.agg #[.slice sa y.s.spots.length sc, vi y.s.strain, .slice ta y.s.tools.length tc, vi y.s.day, .slice RA rd.length rc2], .slice B ts.length d] W fun e w' => e = .returned (.tuple #[vi P1, vi P2, vi F]) ∧ newer W w') := Lib.hid (fun W hW B d hrow => by
              have h := best_any X ts B d W (ho6.next hW) hXf hrow
              rw [hXs, hbe, ← hP1, ← hP2, hXv] at h
              exact h)
            have HBO : Hid (∀ (k : Nat) (t : Tl), ts[k]? = some t → posE (allT xs) = 0 → ∀ W, newer w6 W → ∀ B d, Row tlL 7 W W.heap.size B [t] → Calls Try.prog 53 #[.agg #[.slice sa y.s.spots.length sc, vi y.s.strain, .slice ta y.s.tools.length tc, vi y.s.day, .slice RA rd.length rc2], .slice B ([t] : List Tl).length d] W fun e w' => e = .returned (.tuple #[vi 0, vi (worstS xs t), vi 0]) ∧ newer W w') := Lib.hid (fun k t hk hp W hW B d hrow => by
              have h := best_any X [t] B d W (ho6.next hW) hXf hrow
              obtain ⟨e1, e2⟩ := best_one HSE.out hk hp
              rw [hXs, e1, e2, hXv] at h
              exact h)
            have HTX : Hid (∀ W, newer w6 W → Calls Try.prog 32 #[.agg #[.slice sa y.s.spots.length sc, vi y.s.strain, .slice ta y.s.tools.length tc, vi y.s.day, .slice RA rd.length rc2]] W fun e w' => ∃ xs A c, e = .returned (.tuple #[.slice A xs.length c, vi F]) ∧ xs.map (·.l) = TT ∧ LlOwn xs A c W.heap.size w' ∧ newer W w') := Lib.hid (fun W hW => by
              have h := turns_all X W (ho6.next hW) hXf
              rw [hXs, ← hF, ← hTT, hXv] at h
              exact h)
            have hcs := turn_have HXD.out (by rw [hxs]; exact HX.out.2.2)
            rw [← hF, ← hTT] at hcs
            have HCS := Lib.hid hcs
            have HTL : Hid (∀ W, newer w6 W → Calls Try.prog 54 #[.slice A ts.length c] W fun e w' => ∃ B d, e = .returned (.slice B ts.length d) ∧ w'.ownsRow W.heap.size 112 7 (.slice B ts.length d) ts.length (ts.flatMap tlL) ∧ newer W w') := Lib.hid (fun W hW => lawTools ts A c W (by have := H10.out; omega) ((HTS.out.below (newer_trans HN3.out (newer_trans hn6 hW))).more (newer_trans HN3.out (newer_trans hn6 hW)).size))
            have HPP := Lib.hid (And.intro hP1 (And.intro hP2 (And.intro hF (And.intro hTT hbe))))
            have H6 := Lib.hid (And.intro hn6 (And.intro hx6 (And.intro hsp6 htl6)))
            clear hX hXs hXv hfar hXf ho6 hcs hF hTT hn6 hx6 hsp6 htl6 z4 f4 H5 hP1 hP2 hbe hxs
            have x0 := H6.out.2.1.at 0 (v := .slice sa y.s.spots.length sc) rfl
            have x1 := H6.out.2.1.at 1 (v := vi y.s.strain) rfl
            have x2 := H6.out.2.1.at 2 (v := .slice ta y.s.tools.length tc) rfl
            have x3 := H6.out.2.1.at 3 (v := vi y.s.day) rfl
            have x4 := H6.out.2.1.at 4 (v := .slice RA rd.length rc2) rfl
            refine wp_words (by kernel_rfl) (region_told 10 (by kernel_rfl) (by kernel_rfl) (fun W => Below w6.heap.size w6 W) newer (pickD [vIs (.agg #[.slice sa y.s.spots.length sc, vi y.s.strain, .slice ta y.s.tools.length tc, vi y.s.day, .slice RA rd.length rc2]), vIs (.slice A ts.length c), vTools (ts), vIs (.tuple #[vi P1, vi P2, vi F]), vIs (.tuple #[vi P1, vi P2, vi F]), vIs (vi P1), vIs (vi P2), vIs (vi F), vIs (vi P1), vIs (vi P2)]) (fun h k => newer_trans h k) (pickD_stable _ ⟨vIs_st, vIs_st, vTools_st, vIs_st, vIs_st, vIs_st, vIs_st, vIs_st, vIs_st, vIs_st, trivial⟩) (Below.refl _ w6).drew (Below.refl _ _) ?_ ?_)
            · refine ⟨?_, ?_, ?_, ?_, ?_, ?_, ?_, ?_, ?_, ?_, trivial⟩
              · intro a W hG hR hO hp
                have h14 := hO.slot 14 (by kernel_rfl)
                have c0 := keep_cell x0 hG
                have c1 := keep_cell x1 hG
                have c2 := keep_cell x2 hG
                have c3 := keep_cell x3 hG
                have c4 := keep_cell x4 hG
                refine kY (v := .agg #[.slice sa y.s.spots.length sc, vi y.s.strain, .slice ta y.s.tools.length tc, vi y.s.day, .slice RA rd.length rc2]) hG rfl ?_
                simp [slotOf] at h14
                simp [execOp, go_sem, h14, c0, c1, c2, c3, c4]
              · exact fun a W hG _ hO _ => kM 1 rfl (hO.slot 1 (by kernel_rfl)) rfl hG
              · intro a W hG hR hO hp
                have h69 : slotOf a 69 = .slice A ts.length c := hp.1
                refine wp_enters (f := 54) (args := #[.slice A ts.length c]) ?_ ((HTL.out W hG).mono ?_)
                · simp [slotOf] at h69
                  simp [go_sem, h69]
                · rintro e w' ⟨B, d, rfl, ho, hb⟩
                  exact ⟨_, rfl, _, rfl, ⟨B, d, rfl, row_of_own (enc := tlL) (size := 7) (by decide) (fun _ => rfl) ho⟩, hb, below_next hG hb⟩
              · intro a W hG hR hO hp
                have h68 : slotOf a 68 = .agg #[.slice sa y.s.spots.length sc, vi y.s.strain, .slice ta y.s.tools.length tc, vi y.s.day, .slice RA rd.length rc2] := hp.1
                have h70 := hp.2.1
                obtain ⟨B, d, h70, hro⟩ := h70
                refine wp_enters (f := 53) (args := #[.agg #[.slice sa y.s.spots.length sc, vi y.s.strain, .slice ta y.s.tools.length tc, vi y.s.day, .slice RA rd.length rc2], .slice B (ts).length d]) ?_ ((HBX.out W hG B d hro).mono ?_)
                · simp [slotOf] at h68 h70
                  simp [go_sem, h68, h70]
                · rintro e w' ⟨rfl, hb⟩
                  exact ⟨_, rfl, _, rfl, rfl, hb, below_next hG hb⟩
              · exact fun a W hG _ _ hp => kM 71 rfl hp.1 rfl hG
              · intro a W hG hR hO hp
                have h67 : slotOf a 67 = .tuple #[vi P1, vi P2, vi F] := hp.1
                refine kY (v := vi P1) hG rfl ?_
                simp [slotOf] at h67
                simp [execOp, go_sem, h67]
              · intro a W hG hR hO hp
                have h67 : slotOf a 67 = .tuple #[vi P1, vi P2, vi F] := hp.1
                refine kY (v := vi P2) hG rfl ?_
                simp [slotOf] at h67
                simp [execOp, go_sem, h67]
              · intro a W hG hR hO hp
                have h67 : slotOf a 67 = .tuple #[vi P1, vi P2, vi F] := hp.1
                refine kY (v := vi F) hG rfl ?_
                simp [slotOf] at h67
                simp [execOp, go_sem, h67]
              · intro a W hG hR hO hp
                have h72 : slotOf a 72 = vi P1 := hp.1
                refine kY (v := vi P1) hG rfl ?_
                simp [slotOf] at h72
                simp [execOp, go_sem, h72]
              · intro a W hG hR hO hp
                have h73 : slotOf a 73 = vi P2 := hp.1
                refine kY (v := vi P2) hG rfl ?_
                simp [slotOf] at h73
                simp [execOp, go_sem, h73]
            · intro w8 hG hR
              rintro _ rfl _ rfl _ hvt _ rfl _ rfl _ rfl _ rfl _ rfl _ rfl _ rfl
              change wpList _ _ _ _ _ _
              simp only [Act.put, List.setIfInBounds_toArray, List.set_cons_zero, List.set_cons_succ, List.drop_succ_cons, List.drop_zero]
              have H8 := Lib.hid hG
              clear hG hR x0 x1 x2 x3 x4 hvt HBX
              have x0 := (H6.out.2.1.below H8.out H6.out.2.1.lt).at 0 (v := .slice sa y.s.spots.length sc) rfl
              have x1 := (H6.out.2.1.below H8.out H6.out.2.1.lt).at 1 (v := vi y.s.strain) rfl
              have x2 := (H6.out.2.1.below H8.out H6.out.2.1.lt).at 2 (v := .slice ta y.s.tools.length tc) rfl
              have x3 := (H6.out.2.1.below H8.out H6.out.2.1.lt).at 3 (v := vi y.s.day) rfl
              have x4 := (H6.out.2.1.below H8.out H6.out.2.1.lt).at 4 (v := .slice RA rd.length rc2) rfl
              go_wp2_with fail
              refine (HTX.out w8 H8.out).mono ?_
              rintro e w9 ⟨xl, A3, c3, rfl, hxm, hox, hn⟩
              have hxl : xl.length = TT.length := by rw [← hxm, List.length_map]
              have H9 := Lib.hid (newer_trans H8.out hn)
              rw [hxl]
              clear hxm hxl hox hn x0 x1 x2 x3 x4 HTX
              obtain ⟨mT, hmT⟩ : ∃ m, m = TT.length := ⟨_, rfl⟩
              rw [← hmT]
              have HMT := Lib.hid hmT
              clear hmT
              rcases HCS.out with ⟨rfl, h2⟩ | ⟨rfl, h2, h3⟩
              · clear h2
                go_wp2_with fail
                refine (awake_any _).mono ?_
                rintro e wk ⟨rfl, hb⟩
                have HK := Lib.hid (newer_trans (newer_trans HN3.out (newer_trans H6.out.1 H9.out)) hb)
                clear hb
                go_wp2_with fail
                go_ret
                exact ⟨rfl, HK.out⟩
              · have HTT := Lib.hid (And.intro h2 h3)
                clear h2 h3
                have hps : posE (allT xs) = 0 := by rw [← turnE_pos HXD.out, ← HPP.out.2.2.1]
                have hbp : bestP xs ts = bestK xs ts ts.length := by unfold bestP; rw [HPP.out.2.2.2.2, if_pos rfl]
                obtain ⟨b, t, hbn, htb, hbk, hmin⟩ := best_inv xs ts ts.length (stake_len HSE.out).1 (Nat.le_refl _)
                have e1 : P1 = (b : Int) := HPP.out.1.trans (by rw [hbp, hbk])
                have e2 : P2 = worstS xs t := HPP.out.2.1.trans (by rw [hbp, hbk])
                subst e1
                have hst := stake_turn HSE.out htb
                have hfa : f ∈ allR xs := mem_all.2 ((agrees_iff HXD.out).2 ⟨by rw [HXS.out]; exact HF.out.1, by rw [HXS.out]; exact HX.out.2.1⟩)
                obtain ⟨ks, hkl, hko, hka⟩ := full_ks HXD.out hfa
                have hge := worst_ge HXD.out hst.2.2.1 hkl hko hka
                have hwb := worst_bd HXD.out hst.2.2.1
                have hmt : mT = (allT xs).length := by rw [HMT.out, HTT.out.1, turnsN_length]
                rw [← e2, ← hmt] at hwb
                rw [← e2] at hge hmin
                have HKS := Lib.hid (And.intro hkl (And.intro hko hka))
                have HMN := Lib.hid hmin
                have HPS := Lib.hid hps
                have HST2 := Lib.hid hst
                have HE2 := Lib.hid e2
                have HMT2 := Lib.hid hmt
                have HTB := Lib.hid htb
                clear hps hbp hbk hmin e2 hst hfa hkl hko hka hmt HCS HPP
                obtain ⟨n, hnn⟩ : ∃ n, n = ts.length := ⟨_, rfl⟩
                have hn10 : n ≤ 10 := by rw [hnn]; exact H10.out
                rw [← hnn] at hbn ⊢
                have HNN := Lib.hid hnn
                obtain ⟨ab, ao, rfl, -⟩ := row7 HTS.out htb
                have hnc : n ≤ c := by rw [hnn]; exact HCAP.out
                have hb0 : ¬ (b : Int) < 0 := by omega
                have hbn2 : ¬ (n : Int) ≤ (b : Int) := by omega
                have hw1 : ¬ P2 < 1 := by omega
                have hw2 : ¬ (mT : Int) < P2 := by omega
                have hbni : (b : Int) < n := by omega
                have hmT60 : mT ≤ 60 := by rw [HMT2.out, ← turnsN_length]; exact HTT.out.2
                have d1 : decide ((b : Int) < 0) = false := decide_eq_false hb0
                have d2 : decide (n ≤ b) = false := decide_eq_false (by omega)
                have d3 : decide (P2 < 1) = false := decide_eq_false hw1
                have d4 : decide ((mT : Int) < P2) = false := decide_eq_false hw2
                have d5 : decide ((10 : Int) < n) = false := decide_eq_false (by omega)
                clear htb hnn
                go_wp2_with fail
                try simp only [d1, d2, d3, d4, d5, Bool.or_false, Bool.false_or]
                try go_frame
                clear d1 d2 d3 d4 d5
                go_loopw [20] (fun s20 wr => ∃ i : Nat, i ≤ n ∧ s20 = vi i ∧ newer w9 wr) (fun s20 _ => n - (intOf s20).toNat)
                case atStart => exact ⟨0, Nat.zero_le _, rfl, newer_refl _⟩
                case round =>
                  obtain ⟨i, hi, rfl, hnw⟩ := hrel
                  have HW := Lib.hid hnw
                  have HW6 := Lib.hid (newer_trans H9.out hnw)
                  by_cases hlt : i < n
                  · have hin : (i : Int) < n := by omega
                    obtain ⟨u, hu⟩ : ∃ u, ts[i]? = some u := ⟨_, List.getElem?_eq_getElem (by rw [← HNN.out]; exact hlt)⟩
                    obtain ⟨i1, hi1⟩ : ∃ i1, i1 = i + 1 := ⟨_, rfl⟩
                    have ei1 : (i : Int) + 1 = (i1 : Int) := by omega
                    have ewi1 : IntKind.i64.wrap (i1 : Int) = (i1 : Int) := IntWalk.i64_in _ (by omega)
                    have hii1 : i ≤ i1 := by omega
                    have hi1c : i1 ≤ c := by omega
                    have hci : ¬ c = i := by omega
                    have hone : i1 - i = 1 := by omega
                    have HTU : Hid (∀ W, newer wr W → Calls Try.prog 54 #[.slice (some ⟨ab, ao + i * 7, none⟩) (i1 - i) (c - i)] W fun e w' => ∃ B d, e = .returned (.slice B ([u] : List Tl).length d) ∧ w'.ownsRow W.heap.size 112 7 (.slice B ([u] : List Tl).length d) ([u] : List Tl).length (([u] : List Tl).flatMap tlL) ∧ newer W w') := Lib.hid (fun W hW => by
                      rw [hone]
                      have h9 := newer_trans HN3.out (newer_trans H6.out.1 (newer_trans HW6.out hW))
                      exact lawTools [u] (some ⟨ab, ao + i * 7, none⟩) (c - i) W (by simp) (row_one ((HTS.out.below h9).more h9.size) hu))
                    obtain ⟨wu, hwu⟩ : ∃ q, q = worstS xs u := ⟨_, rfl⟩
                    have hmi := HMN.out i u (by rw [← HNN.out]; exact hlt) hu
                    have hwub := (worst_bd HXD.out (stake_turn HSE.out hu).2.2.1).2
                    rw [← hwu, ← HMT2.out] at hwub
                    rw [← hwu] at hmi
                    have HBU : Hid (∀ W, newer wr W → ∀ B d, Row tlL 7 W W.heap.size B [u] → Calls Try.prog 53 #[.agg #[.slice sa y.s.spots.length sc, vi y.s.strain, .slice ta y.s.tools.length tc, vi y.s.day, .slice RA rd.length rc2], .slice B ([u] : List Tl).length d] W fun e w' => e = .returned (.tuple #[vi 0, vi wu, vi 0]) ∧ newer W w') := Lib.hid (fun W hW B d hro => by rw [hwu]; exact HBO.out i u hu HPS.out W (newer_trans HW6.out hW) B d hro)
                    have HIB : Hid (i = b → wu = P2) := Lib.hid (fun e => by
                      have h1 := HTB.out
                      rw [← e, hu] at h1
                      rw [hwu, HE2.out, Option.some.inj h1])
                    have c1 : ¬ wu < P2 := by omega
                    have c2 : ¬ (mT : Int) < wu := by omega
                    have HLT := Lib.hid hlt
                    clear hnw hu hi1 hone hwu hwub hbn hbn2 hb0 hw1 hw2 hbni
                    have x0 := (H6.out.2.1.below HW6.out H6.out.2.1.lt).at 0 (v := .slice sa y.s.spots.length sc) rfl
                    have x1 := (H6.out.2.1.below HW6.out H6.out.2.1.lt).at 1 (v := vi y.s.strain) rfl
                    have x2 := (H6.out.2.1.below HW6.out H6.out.2.1.lt).at 2 (v := .slice ta y.s.tools.length tc) rfl
                    have x3 := (H6.out.2.1.below HW6.out H6.out.2.1.lt).at 3 (v := vi y.s.day) rfl
                    have x4 := (H6.out.2.1.below HW6.out H6.out.2.1.lt).at 4 (v := .slice RA rd.length rc2) rfl
                    go_wp2_with fail
                    go_upto_region 20 with fail
                    refine wp_words (by kernel_rfl) (region_told 14 (by kernel_rfl) (by kernel_rfl) (fun W => Below wr.heap.size wr W) newer (pickD [vIs (.agg #[.slice sa y.s.spots.length sc, vi y.s.strain, .slice ta y.s.tools.length tc, vi y.s.day, .slice RA rd.length rc2]), vIs (.slice (some ⟨ab, ao, none⟩) n c), vIs (.int .i64 i), vIs (.int .i64 i), vIs (.int .i64 i1), vIs (.slice (some ⟨ab, ao + i * 7, none⟩) (i1 - i) (c - i)), vTools ([u]), vIs (.tuple #[vi 0, vi wu, vi 0]), vIs (.tuple #[vi 0, vi wu, vi 0]), vIs (vi 0), vIs (vi wu), vIs (vi 0), vIs (vi 0), vIs (vi wu)]) (fun h k => newer_trans h k) (pickD_stable _ ⟨vIs_st, vIs_st, vIs_st, vIs_st, vIs_st, vIs_st, vTools_st, vIs_st, vIs_st, vIs_st, vIs_st, vIs_st, vIs_st, vIs_st, trivial⟩) (Below.refl _ wr).drew (Below.refl _ _) ?_ ?_)
                    · refine ⟨?_, ?_, ?_, ?_, ?_, ?_, ?_, ?_, ?_, ?_, ?_, ?_, ?_, ?_, trivial⟩
                      · intro a W hG hR hO hp
                        have h14 := hO.slot 14 (by kernel_rfl)
                        have c0 := keep_cell x0 hG
                        have c1 := keep_cell x1 hG
                        have c2 := keep_cell x2 hG
                        have c3 := keep_cell x3 hG
                        have c4 := keep_cell x4 hG
                        refine kY (v := .agg #[.slice sa y.s.spots.length sc, vi y.s.strain, .slice ta y.s.tools.length tc, vi y.s.day, .slice RA rd.length rc2]) hG rfl ?_
                        simp [slotOf] at h14
                        simp [execOp, go_sem, h14, c0, c1, c2, c3, c4]
                      · exact fun a W hG _ hO _ => kM 1 rfl (hO.slot 1 (by kernel_rfl)) rfl hG
                      · exact fun a W hG _ hO _ => kM 20 rfl (hO.slot 20 (by kernel_rfl)) rfl hG
                      · exact fun a W hG _ hO _ => kM 20 rfl (hO.slot 20 (by kernel_rfl)) rfl hG
                      · intro a W hG hR hO hp
                        have h123 : slotOf a 123 = .int .i64 i := hp.1
                        refine kY (v := .int .i64 i1) hG rfl ?_
                        simp [slotOf] at h123
                        simp [execOp, go_sem, h123, ei1, ewi1]
                      · intro a W hG hR hO hp
                        have h121 : slotOf a 121 = .slice (some ⟨ab, ao, none⟩) n c := hp.1
                        have h122 : slotOf a 122 = .int .i64 i := hp.2.1
                        have h124 : slotOf a 124 = .int .i64 i1 := hp.2.2.1
                        refine kY (v := .slice (some ⟨ab, ao + i * 7, none⟩) (i1 - i) (c - i)) hG rfl ?_
                        simp [slotOf] at h121 h122 h124
                        simp [execOp, go_sem, h121, h122, h124, hii1, hi1c, hci]
                      · intro a W hG hR hO hp
                        have h125 : slotOf a 125 = .slice (some ⟨ab, ao + i * 7, none⟩) (i1 - i) (c - i) := hp.1
                        refine wp_enters (f := 54) (args := #[.slice (some ⟨ab, ao + i * 7, none⟩) (i1 - i) (c - i)]) ?_ ((HTU.out W hG).mono ?_)
                        · simp [slotOf] at h125
                          simp [go_sem, h125]
                        · rintro e w' ⟨B, d, rfl, ho, hb⟩
                          exact ⟨_, rfl, _, rfl, ⟨B, d, rfl, row_of_own (enc := tlL) (size := 7) (by decide) (fun _ => rfl) ho⟩, hb, below_next hG hb⟩
                      · intro a W hG hR hO hp
                        have h120 : slotOf a 120 = .agg #[.slice sa y.s.spots.length sc, vi y.s.strain, .slice ta y.s.tools.length tc, vi y.s.day, .slice RA rd.length rc2] := hp.1
                        have h126 := hp.2.1
                        obtain ⟨B, d, h126, hro⟩ := h126
                        refine wp_enters (f := 53) (args := #[.agg #[.slice sa y.s.spots.length sc, vi y.s.strain, .slice ta y.s.tools.length tc, vi y.s.day, .slice RA rd.length rc2], .slice B ([u]).length d]) ?_ ((HBU.out W hG B d hro).mono ?_)
                        · simp [slotOf] at h120 h126
                          simp [go_sem, h120, h126]
                        · rintro e w' ⟨rfl, hb⟩
                          exact ⟨_, rfl, _, rfl, rfl, hb, below_next hG hb⟩
                      · exact fun a W hG _ _ hp => kM 127 rfl hp.1 rfl hG
                      · intro a W hG hR hO hp
                        have h119 : slotOf a 119 = .tuple #[vi 0, vi wu, vi 0] := hp.1
                        refine kY (v := vi 0) hG rfl ?_
                        simp [slotOf] at h119
                        simp [execOp, go_sem, h119]
                      · intro a W hG hR hO hp
                        have h119 : slotOf a 119 = .tuple #[vi 0, vi wu, vi 0] := hp.1
                        refine kY (v := vi wu) hG rfl ?_
                        simp [slotOf] at h119
                        simp [execOp, go_sem, h119]
                      · intro a W hG hR hO hp
                        have h119 : slotOf a 119 = .tuple #[vi 0, vi wu, vi 0] := hp.1
                        refine kY (v := vi 0) hG rfl ?_
                        simp [slotOf] at h119
                        simp [execOp, go_sem, h119]
                      · intro a W hG hR hO hp
                        have h128 : slotOf a 128 = vi 0 := hp.1
                        refine kY (v := vi 0) hG rfl ?_
                        simp [slotOf] at h128
                        simp [execOp, go_sem, h128]
                      · intro a W hG hR hO hp
                        have h129 : slotOf a 129 = vi wu := hp.1
                        refine kY (v := vi wu) hG rfl ?_
                        simp [slotOf] at h129
                        simp [execOp, go_sem, h129]
                    · intro wz hG hR
                      rintro _ rfl _ rfl _ rfl _ rfl _ rfl _ rfl _ hvt _ rfl _ rfl _ rfl _ rfl _ rfl _ rfl _ rfl
                      change wpList _ _ _ _ _ _
                      simp only [Act.put, List.setIfInBounds_toArray, List.set_cons_zero, List.set_cons_succ, List.drop_succ_cons, List.drop_zero]
                      have HZ := Lib.hid (newer_trans HW.out hG)
                      clear hG x0 x1 x2 x3 x4 hvt HTU HBU ei1 ewi1 hii1 hi1c hci
                      by_cases hib : i < b
                      · have hibi : (i : Int) < b := by omega
                        have hw3 : ¬ wu = P2 := by have := hmi.2 hib; omega
                        have hw4 : (wu == P2) = false := by simpa using hw3
                        have hne : ¬ (i : Int) = b := by omega
                        have hne2 : ((i : Int) == (b : Int)) = false := by simpa using hne
                        have hne3 : (i == b) = false := by simp; omega
                        clear hmi
                        go_wp2_with fail
                        go_roundw
                        case rel => exact ⟨i + 1, HLT.out, by go_num, HZ.out⟩
                        case measure => simp [intOf]; omega
                      · have hibi : ¬ (i : Int) < b := by omega
                        by_cases hie : i = b
                        · subst hie
                          obtain rfl := HIB.out rfl
                          clear hmi
                          go_wp2_with fail
                          go_roundw
                          case rel => exact ⟨i + 1, HLT.out, by go_num, HZ.out⟩
                          case measure => simp [intOf]; omega
                        · have hne : ¬ (i : Int) = b := by omega
                          have hne2 : ((i : Int) == (b : Int)) = false := by simpa using hne
                          have hne3 : (i == b) = false := by simp; omega
                          clear hmi
                          go_wp2_with fail
                          go_roundw
                          case rel => exact ⟨i + 1, HLT.out, by go_num, HZ.out⟩
                          case measure => simp [intOf]; omega
                  · obtain rfl : i = n := by omega
                    have hin : ¬ (i : Int) < i := by omega
                    obtain ⟨b4, o4, e4, -, t0, t1, t2, t3, t4, t5, t6⟩ := row7 (HTS.out.below (newer_trans HN3.out (newer_trans H6.out.1 HW6.out))) HTB.out
                    injection e4 with e4
                    injection e4 with e5 e6
                    subst e5 e6
                    clear hnw hb0 hbn2 hw1 hw2
                    go_upto_region 24 with fail
                    obtain ⟨gb, hgb⟩ : ∃ q, q = wr.heap.size := ⟨_, rfl⟩
                    try rw [← hgb]
                    refine genQ (fun X => newer wr X ∧ Whole X gb 43 (tlC t)) ⟨newer_allocH _ _, by rw [hgb]; exact Whole.made _ _ _⟩ ?_
                    have HXG : Hid (gb ≠ xb ∧ w6.heap.size ≤ gb) := Lib.hid (by have h1 := H6.out.2.1.lt; have h2 := HW6.out.size; omega)
                    clear t0 t1 t2 t3 t4 t5 t6 hgb
                    rintro wa ⟨hna, hta⟩
                    have HWA := Lib.hid (And.intro (newer_trans HW6.out hna) hta)
                    have HSA := Lib.hid (newer_trans H3.out (newer_trans H6.out.1 (newer_trans HW6.out hna)))
                    have x2 := (HBS.out.below HSA.out HBS.out.lt).at 2 (v := .slice y.ta y.s.tools.length y.tc) rfl
                    by_cases h8 : y.s.tools.length = 8
                    · have h8i : ((y.s.tools.length : Int) == 8) = true := by simp [h8]
                      have h8n : (y.s.tools.length == 8) = true := by simp [h8]
                      clear h8 hna hta
                      go_wp2_with fail
                      refine (awake_any _).mono ?_
                      rintro e wk ⟨rfl, hb⟩
                      have HK := Lib.hid (newer_trans (newer_trans HNS.out HSA.out) hb)
                      clear hb
                      go_wp2_with fail
                      go_ret
                      exact ⟨rfl, HK.out⟩
                    · have h8i : ((y.s.tools.length : Int) == 8) = false := by simp; omega
                      have h8n : (y.s.tools.length == 8) = false := by simp [h8]
                      have HF8 := Lib.hid (show y.s.tools.length < 8 by have := HSD.out.few; omega)
                      have x3 := (HBS.out.below HSA.out HBS.out.lt).at 3 (v := vi y.s.day) rfl
                      have t0 := hta.at 0 (v := vi t.spot) rfl
                      have t1 := hta.at 1 (v := vi t.a) rfl
                      have t2 := hta.at 2 (v := vi t.b) rfl
                      have t3 := hta.at 3 (v := vi t.turn) rfl
                      have t4 := hta.at 4 (v := vi t.err) rfl
                      have t5 := hta.at 5 (v := vi t.drift) rfl
                      have t6 := hta.at 6 (v := vi t.since) rfl
                      have hto : TlOk y.s.spots.length y.s.day t := by have h := HST2.out.2.2.1; rw [HXS.out] at h; exact h
                      have HTK := Lib.hid hto
                      have hdy := HSD.out.day
                      have hob := off_bd hto hdy.1 hdy.2
                      have HOF := Lib.hid (fun W => refOff_any t y.s.day W (by have := hto.err; omega) (by have := hto.drift; omega) (by have := hto.since; omega) (by omega))
                      obtain ⟨of, hof⟩ : ∃ q, q = offN t y.s.day := ⟨_, rfl⟩
                      rw [← hof] at HOF hob
                      have HOE := Lib.hid hof
                      clear hna hta hto hdy hof
                      go_wp2_with fail
                      refine ((HOF.out _).mono ?_)
                      rintro e wc1 ⟨rfl, hb⟩
                      have HC := Lib.hid (And.intro (newer_trans HWA.out.1 hb) (HWA.out.2.below hb HWA.out.2.lt))
                      clear hb HOF x2 x3 t0 t1 t2 t3 t4 t5 t6 h8i h8n
                      have q2 := (H6.out.2.1.below HC.out.1 H6.out.2.1.lt).at 2 (v := .slice ta y.s.tools.length tc) rfl
                      have t0 := HC.out.2.at 0 (v := vi t.spot) rfl
                      have t1 := HC.out.2.at 1 (v := vi t.a) rfl
                      have t2 := HC.out.2.at 2 (v := vi t.b) rfl
                      have t3 := HC.out.2.at 3 (v := vi t.turn) rfl
                      have t4 := HC.out.2.at 4 (v := vi t.err) rfl
                      have t5 := HC.out.2.at 5 (v := vi t.drift) rfl
                      have t6 := HC.out.2.at 6 (v := vi t.since) rfl
                      obtain ⟨i0, hi0, hz0, hz1, hz2⟩ := info_parts info_tool
                      have HI := Lib.hid (And.intro hi0 (And.intro hz0 (And.intro hz1 hz2)))
                      clear hi0 hz0 hz1 hz2
                      obtain ⟨i3, hi0, hz0, hz1, hz2⟩ := info_parts info_int
                      have HI3 := Lib.hid (And.intro hi0 (And.intro hz0 (And.intro hz1 hz2)))
                      clear hi0 hz0 hz1 hz2
                      go_wp2_with fail
                      go_upto_region 27 with fail
                      refine wp_words (by kernel_rfl) (region_told 5 (by kernel_rfl) (by kernel_rfl) (fun W => Below wc1.heap.size wc1 W) newer (pickD [vIs (.pointer (some ⟨xb, 2, none⟩)), vIs (.slice ta y.s.tools.length tc), vIs (tlV t), vIs (tlV t), vOne wc1.heap.size 112 (tlC t)]) (fun h k => newer_trans h k) (pickD_stable _ ⟨vIs_st, vIs_st, vIs_st, vIs_st, vOne_st, trivial⟩) (Below.refl _ wc1).drew (Below.refl _ _) ?_ ?_)
                      · refine ⟨?_, ?_, ?_, ?_, ?_, trivial⟩
                        · intro a W hG hR hO hp
                          have h14 := hO.slot 14 (by kernel_rfl)
                          refine kY (v := .pointer (some ⟨xb, 2, none⟩)) hG rfl ?_
                          simp [slotOf] at h14
                          simp [execOp, go_sem, h14]
                        · intro a W hG hR hO hp
                          have h181 : slotOf a 181 = .pointer (some ⟨xb, 2, none⟩) := hp.1
                          have c0 := keep_cell q2 hG
                          refine kY (v := .slice ta y.s.tools.length tc) hG rfl ?_
                          simp [slotOf] at h181
                          simp [execOp, go_sem, h181, c0]
                        · intro a W hG hR hO hp
                          have h24 := hO.slot 24 (by kernel_rfl)
                          have c0 := keep_cell t0 hG
                          have c1 := keep_cell t1 hG
                          have c2 := keep_cell t2 hG
                          have c3 := keep_cell t3 hG
                          have c4 := keep_cell t4 hG
                          have c5 := keep_cell t5 hG
                          have c6 := keep_cell t6 hG
                          refine kY (v := tlV t) hG rfl ?_
                          simp [slotOf] at h24
                          simp [execOp, go_sem, h24, c0, c1, c2, c3, c4, c5, c6]
                        · intro a W hG hR hO hp
                          have h183 : slotOf a 183 = tlV t := hp.1
                          refine wp_enters (f := 56) (args := #[tlV t]) ?_ ((lawTool t W).mono ?_)
                          · simp [slotOf] at h183
                            simp [go_sem, h183]
                          · rintro e w' ⟨rfl, hb⟩
                            exact ⟨_, rfl, _, rfl, rfl, hb, below_next hG hb⟩
                        · intro a W hG hR hO hp
                          have h184 : slotOf a 184 = tlV t := hp.1
                          refine wp_makes (v := .slice (some ⟨W.heap.size, 0, none⟩) 1 1) (W' := W.alloc (.cells (tlC t) 112)) ?_ ⟨_, rfl, ⟨_, rfl, hG.size, Whole.made _ _ _⟩, newer_allocH _ _, below_next hG (newer_allocH _ _)⟩
                          simp [slotOf] at h184
                          simp [execOp, go_sem, h184]
                      · intro wd hG hR
                        rintro _ rfl _ rfl _ rfl _ rfl _ ⟨nb, rfl, hnb, hone⟩
                        change wpList _ _ _ _ _ _
                        simp only [Act.put, List.setIfInBounds_toArray, List.set_cons_zero, List.set_cons_succ, List.drop_succ_cons, List.drop_zero]
                        have HD6 := Lib.hid (newer_trans HC.out.1 hG)
                        have HTO := Lib.hid (own_below H6.out.2.2.2 HD6.out)
                        have HXW := Lib.hid (H6.out.2.1.below HD6.out H6.out.2.1.lt)
                        have HGW := Lib.hid (HC.out.2.below hG HC.out.2.lt)
                        have HSPR := Lib.hid (own_below H6.out.2.2.1 HD6.out)
                        have HROW := Lib.hid (row_of_whole (enc := tlL) (s := 7) (fun _ => rfl) (l := [t]) hone rfl)
                        have HSZ := Lib.hid (show w3.heap.size ≤ wd.heap.size from Nat.le_trans H6.out.1.size HD6.out.size)
                        clear hG hone q2 t0 t1 t2 t3 t4 t5 t6
                        go_upto_region 28 with (at_builtin; (refine wpList_plain rfl fun _ hK => wp_append_all (enc := tlL) (size := 7) w3.heap.size (.tmp 182) (.tmp 185) 38 112 i0 (.agg #[vi 0, vi 0, vi 0, vi 0, vi 0, vi 0, vi 0]) 56 Try.underlying38 HI.out.1 HI.out.2.1 HI.out.2.2.1 HI.out.2.2.2 rfl (by omega) (fun _ => rfl) tlL_one rfl ta y.s.tools.length tc (y.s.tools.flatMap tlL) rfl HTO.out [t] (some ⟨nb, 0, none⟩) 1 rfl HROW.out (by have := HF8.out; unfold maxLen; simp only [List.length_singleton]; omega) (by have := HF8.out; simp only [List.length_singleton]; omega) HSZ.out fun TB tbc we hown hgr hat => hK _ _ ?_); have HTE := Lib.hid hown; have HGR := Lib.hid hgr; have hx := (HXW.out).grown hgr (own_ne HTO.out HXW.out (by decide)).symm; have q2 := hx.at 2 (v := .slice ta y.s.tools.length tc) rfl; have f2 := hx.free 2; have HXE := Lib.hid hx; clear hown hgr hat hx)
                        have hspe := HSPR.out.kept HGR.out (own_apart HSPR.out HTO.out (by decide))
                        refine genQ (fun Y => newer w3 Y ∧ Whole Y xb 40 #[.slice sa y.s.spots.length sc, vi y.s.strain, .slice TB (y.s.tools.length + 1) tbc, vi y.s.day, .slice RA rd.length rc2] ∧ Whole Y gb 43 (tlC t) ∧ Y.ownsRow w3.heap.size 56 4 (.slice sa y.s.spots.length sc) y.s.spots.length (y.s.spots.flatMap spL) ∧ Y.ownsRow w3.heap.size 112 7 (.slice TB (y.s.tools.length + 1) tbc) (y.s.tools.length + 1) (y.s.tools.flatMap tlL ++ [t].flatMap tlL)) ⟨(below_row (newer_trans H6.out.1 HD6.out) HTO.out HGR.out (Nat.le_refl _)).setCell (p := ⟨xb, 2, none⟩) HXB.out _, HXE.out.set 2 _, (HGW.out.grown HGR.out (own_ne HTO.out HGW.out (by decide)).symm).far (p := ⟨xb, 2, none⟩) HXG.out.1 _, own_set hspe (own_ne hspe HXE.out (by decide)) _, own_set HTE.out (own_ne HTE.out HXE.out (by decide)) _⟩ ?_
                        clear hspe q2 f2
                        rintro wf ⟨hnf, hxf, hgf, hsf0, htf⟩
                        have HWF := Lib.hid (And.intro hnf (And.intro hxf (And.intro hgf (And.intro hsf0 htf))))
                        have hto := HTK.out
                        obtain ⟨sp, hspe⟩ : ∃ q : Nat, q = t.spot.toNat := ⟨_, rfl⟩
                        have hsl : sp < f.length := by have h1 := hto.spot; have h2 := HF.out.1; omega
                        have hsf : (sp : Int) < f.length := by omega
                        obtain ⟨m, hm⟩ : ∃ m, f[sp]? = some m := ⟨_, List.getElem?_eq_getElem hsl⟩
                        have hfm : fnL f t.spot.toNat = m := by rw [← hspe]; exact fnL_at hm
                        obtain ⟨fb, fo, rfl, -, m0, m1⟩ := row2 (HFR3.out.below hnf) hm
                        have hmb := FieldIn.bd HSD.out HF.out.2 (i := t.spot.toNat) (by have := hto.spot; omega)
                        rw [hfm] at hmb
                        have hsgb := sight_bd hto hmb.1 hmb.2
                        have HSG : Hid (∀ W, Calls Try.prog 23 #[tlV t, mvV m] W fun e w' => e = .returned (vi (sightN t m)) ∧ newer W w') := Lib.hid (fun W => refSight_any t m W (by have := hto.a; omega) (by have := hto.b; omega) (by omega) (by omega))
                        obtain ⟨sg, hsg⟩ : ∃ q, q = sightN t m := ⟨_, rfl⟩
                        rw [← hsg] at HSG hsgb
                        have hbn65 := HBN.out
                        obtain ⟨d0, hd0⟩ : ∃ q, q = sg - of := ⟨_, rfl⟩
                        have hwd : IntKind.i64.wrap (sg - of) = d0 := by rw [hd0]; exact IntWalk.i64_in _ (by omega)
                        obtain ⟨o2, ho2e⟩ : ∃ q, q = 2 * of := ⟨_, rfl⟩
                        have ho2 : IntKind.i64.wrap (2 * of) = o2 := by rw [ho2e]; exact IntWalk.i64_in _ (by omega)
                        obtain ⟨o3, ho3e⟩ : ∃ q, q = o2 + 1 := ⟨_, rfl⟩
                        have ho3 : IntKind.i64.wrap (o2 + 1) = o3 := by rw [ho3e]; exact IntWalk.i64_in _ (by omega)
                        have hz3 : ¬ o3 = 0 := by omega
                        have ebn : IntKind.i64.wrap (bn : Int) = bn := IntWalk.i64_in _ (by omega)
                        obtain ⟨rm, hrme⟩ : ∃ q, q = (bn : Int).tmod o3 := ⟨_, rfl⟩
                        have hrm : (bn : Int).tmod o3 = rm := hrme.symm
                        have hrmb : 0 ≤ rm ∧ rm < o3 := by
                          rw [hrme, Int.tmod_eq_emod_of_nonneg (by omega)]
                          exact ⟨Int.emod_nonneg _ hz3, Int.emod_lt_of_pos _ (by omega)⟩
                        have hwrm : IntKind.i64.wrap rm = rm := IntWalk.i64_in _ (by omega)
                        obtain ⟨r, hre⟩ : ∃ q, q = d0 + rm := ⟨_, rfl⟩
                        have hwr : IntKind.i64.wrap (d0 + rm) = r := by rw [hre]; exact IntWalk.i64_in _ (by omega)
                        have HRB : Hid ((-1000 ≤ r ∧ r ≤ 1000) ∧ inW xs t (fnL f t.spot.toNat) r) := Lib.hid ⟨by omega, by
                          have hxd : xs.day = y.s.day := by rw [HXS.out]
                          unfold inW
                          rw [hfm, ← hsg, hxd, ← HOE.out]
                          omega⟩
                        have HRD : Hid (∀ W, newer wf W → Row intL 1 W W.heap.size RA rd) := Lib.hid (fun W hW => by
                          have h := HTW.out.o1
                          rw [← map_vi] at h
                          have h1 := row_of_own (enc := intL) (size := 1) (by decide) (fun _ => rfl) h
                          exact (h1.below (newer_trans hnf hW)).more (newer_trans hnf hW).size)
                        have HRL8 := Lib.hid (show rd.length ≤ 8 by have h1 := HRL.out; have h2 := HF8.out; omega)
                        have t0 := hgf.at 0 (v := vi t.spot) rfl
                        have t1 := hgf.at 1 (v := vi t.a) rfl
                        have t2 := hgf.at 2 (v := vi t.b) rfl
                        have t3 := hgf.at 3 (v := vi t.turn) rfl
                        have t4 := hgf.at 4 (v := vi t.err) rfl
                        have t5 := hgf.at 5 (v := vi t.drift) rfl
                        have t6 := hgf.at 6 (v := vi t.since) rfl
                        have ts : wf.cell? ⟨gb, 0, none⟩ = some (.int .i64 sp) := by rw [t0, hspe]; have := hto.spot; exact congrArg some (congrArg vi (by omega))
                        clear hnf hxf hgf hsf0 htf hto hspe hsl hm hfm hmb hsg hd0 ho2e ho3e hrme hre
                        refine wp_words (by kernel_rfl) (region_told 17 (by kernel_rfl) (by kernel_rfl) (fun W => Below wf.heap.size wf W) newer (pickD [vIs (.slice RA rd.length rc2), vOwn wf.heap.size 3 1 intL rd, vIs (tlV t), vIs (.slice (some ⟨fb, fo, none⟩) f.length fc), vIs (.pointer (some ⟨gb, 0, none⟩)), vIs (.int .i64 sp), vIs (.pointer (some ⟨fb, fo + sp * 2, none⟩)), vIs (mvV m), vIs (vi sg), vIs (vi of), vIs (vi d0), vIs (.int .u16 bn), vIs (vi bn), vIs (vi of), vIs (vi o2), vIs (vi o3), vIs (vi rm)]) (fun h k => newer_trans h k) (pickD_stable _ ⟨vIs_st, vOwn_st, vIs_st, vIs_st, vIs_st, vIs_st, vIs_st, vIs_st, vIs_st, vIs_st, vIs_st, vIs_st, vIs_st, vIs_st, vIs_st, vIs_st, vIs_st, trivial⟩) (Below.refl _ wf).drew (Below.refl _ _) ?_ ?_)
                        · refine ⟨?_, ?_, ?_, ?_, ?_, ?_, ?_, ?_, ?_, ?_, ?_, ?_, ?_, ?_, ?_, ?_, ?_, trivial⟩
                          · exact fun a W hG _ hO _ => kM 11 rfl (hO.slot 11 (by kernel_rfl)) rfl hG
                          · intro a W hG hR hO hp
                            have h188 : slotOf a 188 = .slice RA rd.length rc2 := hp.1
                            obtain ⟨hi0, hz0, hz1, hz2⟩ := HI3.out
                            refine wp_append_all (enc := intL) (size := 1) wf.heap.size (.const (.slice none 0 0)) (.tmp 188) 24 3 i3 (.int .i64 0) 8 Try.underlying24 hi0 hz0 hz1 hz2 rfl (by omega) (fun _ => rfl) intL_oneB rfl none 0 0 [] rfl ⟨rfl, .inl ⟨rfl, rfl⟩⟩ rd RA rc2 ((eval_slot a 188).trans h188) (HRD.out W hG) (by have := HRL8.out; unfold maxLen; omega) (by have := HRL8.out; omega) hG.size ?_
                            intro B c' w2 hown hgr hat
                            simp only [Nat.zero_add, List.nil_append] at hown ⊢
                            exact ⟨_, rfl, ⟨B, c', rfl, hown⟩, below_grown hgr (fun q hq => by cases hq) (Nat.le_refl _), below_next hG (below_grown hgr (fun q hq => by cases hq) (Nat.le_refl _))⟩
                          · intro a W hG hR hO hp
                            have h24 := hO.slot 24 (by kernel_rfl)
                            have c0 := keep_cell t0 hG
                            have c1 := keep_cell t1 hG
                            have c2 := keep_cell t2 hG
                            have c3 := keep_cell t3 hG
                            have c4 := keep_cell t4 hG
                            have c5 := keep_cell t5 hG
                            have c6 := keep_cell t6 hG
                            refine kY (v := tlV t) hG rfl ?_
                            simp [slotOf] at h24
                            simp [execOp, go_sem, h24, c0, c1, c2, c3, c4, c5, c6]
                          · exact fun a W hG _ hO _ => kM 9 rfl (hO.slot 9 (by kernel_rfl)) rfl hG
                          · intro a W hG hR hO hp
                            have h24 := hO.slot 24 (by kernel_rfl)
                            refine kY (v := .pointer (some ⟨gb, 0, none⟩)) hG rfl ?_
                            simp [slotOf] at h24
                            simp [execOp, go_sem, h24]
                          · intro a W hG hR hO hp
                            have h192 : slotOf a 192 = .pointer (some ⟨gb, 0, none⟩) := hp.1
                            have c0 := keep_cell ts hG
                            refine kY (v := .int .i64 sp) hG rfl ?_
                            simp [slotOf] at h192
                            simp [execOp, go_sem, h192, c0]
                          · intro a W hG hR hO hp
                            have h191 : slotOf a 191 = .slice (some ⟨fb, fo, none⟩) f.length fc := hp.1
                            have h193 : slotOf a 193 = .int .i64 sp := hp.2.1
                            refine kY (v := .pointer (some ⟨fb, fo + sp * 2, none⟩)) hG rfl ?_
                            simp [slotOf] at h191 h193
                            simp [execOp, go_sem, h191, h193, hsf]
                          · intro a W hG hR hO hp
                            have h194 : slotOf a 194 = .pointer (some ⟨fb, fo + sp * 2, none⟩) := hp.1
                            have c0 := keep_cell m0 hG
                            have c1 := keep_cell m1 hG
                            refine kY (v := mvV m) hG rfl ?_
                            simp [slotOf] at h194
                            simp [execOp, go_sem, h194, c0, c1]
                          · intro a W hG hR hO hp
                            have h190 : slotOf a 190 = tlV t := hp.1
                            have h195 : slotOf a 195 = mvV m := hp.2.1
                            refine wp_enters (f := 23) (args := #[tlV t, mvV m]) ?_ ((HSG.out W).mono ?_)
                            · simp [slotOf] at h190 h195
                              simp [go_sem, h190, h195]
                            · rintro e w' ⟨rfl, hb⟩
                              exact ⟨_, rfl, _, rfl, rfl, hb, below_next hG hb⟩
                          · exact fun a W hG _ hO _ => kM 25 rfl (hO.slot 25 (by kernel_rfl)) rfl hG
                          · intro a W hG hR hO hp
                            have h196 : slotOf a 196 = vi sg := hp.1
                            have h197 : slotOf a 197 = vi of := hp.2.1
                            refine kY (v := vi d0) hG rfl ?_
                            simp [slotOf] at h196 h197
                            simp [execOp, go_sem, h196, h197, hwd]
                          · exact fun a W hG _ hO _ => kM 3 rfl (hO.slot 3 (by kernel_rfl)) rfl hG
                          · intro a W hG hR hO hp
                            have h199 : slotOf a 199 = .int .u16 bn := hp.1
                            refine kY (v := vi bn) hG rfl ?_
                            simp [slotOf] at h199
                            simp [execOp, go_sem, h199, ebn]
                          · exact fun a W hG _ hO _ => kM 25 rfl (hO.slot 25 (by kernel_rfl)) rfl hG
                          · intro a W hG hR hO hp
                            have h201 : slotOf a 201 = vi of := hp.1
                            refine kY (v := vi o2) hG rfl ?_
                            simp [slotOf] at h201
                            simp [execOp, go_sem, h201, ho2]
                          · intro a W hG hR hO hp
                            have h202 : slotOf a 202 = vi o2 := hp.1
                            refine kY (v := vi o3) hG rfl ?_
                            simp [slotOf] at h202
                            simp [execOp, go_sem, h202, ho3]
                          · intro a W hG hR hO hp
                            have h200 : slotOf a 200 = vi bn := hp.1
                            have h203 : slotOf a 203 = vi o3 := hp.2.1
                            refine kY (v := vi rm) hG rfl ?_
                            simp [slotOf] at h200 h203
                            simp [execOp, go_sem, h200, h203, hz3, hrm]
                        · intro wg hG hR
                          rintro _ rfl _ ⟨RB, rbc, rfl, hro⟩ _ rfl _ rfl _ rfl _ rfl _ rfl _ rfl _ rfl _ rfl _ rfl _ rfl _ rfl _ rfl _ rfl _ rfl _ rfl
                          change wpList _ _ _ _ _ _
                          simp only [Act.put, List.setIfInBounds_toArray, List.set_cons_zero, List.set_cons_succ, List.drop_succ_cons, List.drop_zero]
                          have HNA := Lib.hid (newer_allocH wg (.cells #[vi r] 3))
                          have HAP : Hid ((wg.alloc (.cells #[vi r] 3)).ownsRow wf.heap.size 3 1 (.slice RB rd.length rbc) rd.length (rd.flatMap intL) ∧ Row intL 1 (wg.alloc (.cells #[vi r] 3)) (wg.alloc (.cells #[vi r] 3)).heap.size (some ⟨wg.heap.size, 0, none⟩) [r] ∧ newer wf (wg.alloc (.cells #[vi r] 3))) := Lib.hid ⟨own_below hro HNA.out, row_of_whole (enc := intL) (s := 1) (fun _ => rfl) (Whole.made wg 3 #[vi r]) rfl, newer_trans hG HNA.out⟩
                          have HXH := Lib.hid (HWF.out.2.1.below HAP.out.2.2 HWF.out.2.1.lt)
                          have HSPH := Lib.hid (own_below HWF.out.2.2.2.1 HAP.out.2.2)
                          have HTLH := Lib.hid (own_below HWF.out.2.2.2.2 HAP.out.2.2)
                          clear hG hro t0 t1 t2 t3 t4 t5 t6 ts m0 m1 hwd ho2 ho3 hz3 ebn hrm
                          go_upto_region 29 with (at_builtin; (refine wpList_plain rfl fun _ hK => wp_append_all (enc := intL) (size := 1) wf.heap.size (.tmp 189) (.tmp 206) 24 3 i3 (.int .i64 0) 8 Try.underlying24 HI3.out.1 HI3.out.2.1 HI3.out.2.2.1 HI3.out.2.2.2 rfl (by omega) (fun _ => rfl) intL_oneB rfl RB rd.length rbc (rd.flatMap intL) rfl HAP.out.1 [r] (some ⟨wg.heap.size, 0, none⟩) 1 rfl HAP.out.2.1 (by have := HRL8.out; unfold maxLen; simp only [List.length_singleton]; omega) (by have := HRL8.out; simp only [List.length_singleton]; omega) HAP.out.2.2.size fun RE rec wh hown hgr hat => hK _ _ ?_); have HRE := Lib.hid hown; have HGR2 := Lib.hid hgr; have hx := (HXH.out).grown hgr (own_ne HAP.out.1 HXH.out (by decide)).symm; have q4 := hx.at 4 (v := .slice RA rd.length rc2) rfl; have f4 := hx.free 4; have HXI := Lib.hid hx; clear hown hgr hat hx)
                          obtain ⟨Z, hZ⟩ : ∃ Z : Sm, Z = ⟨addS xs t r, sa, sc, TB, tbc, RE, rec⟩ := ⟨_, rfl⟩
                          have hsph := HSPH.out.kept HGR2.out (own_apart HSPH.out HAP.out.1 (by decide))
                          have htlh := HTLH.out.kept HGR2.out (own_apart HTLH.out HAP.out.1 (by decide))
                          have hZv : smV Z = .agg #[.slice sa y.s.spots.length sc, vi y.s.strain, .slice TB (y.s.tools.length + 1) tbc, vi y.s.day, .slice RE (rd.length + 1) rec] := by
                            rw [hZ, HXS.out]
                            show (Value.agg #[_, _, Value.slice _ (y.s.tools ++ [t]).length _, _, Value.slice _ (rd ++ [r]).length _]) = _
                            rw [List.length_append, List.length_append]
                            rfl
                          have hZs : Z.s = addS xs t r := by rw [hZ]
                          refine genQ (fun Y => newer w3 Y ∧ Whole Y xb 40 #[.slice sa y.s.spots.length sc, vi y.s.strain, .slice TB (y.s.tools.length + 1) tbc, vi y.s.day, .slice RE (rd.length + 1) rec] ∧ SmOk Z Y) ⟨(newer_trans HWF.out.1 (below_row HAP.out.2.2 HAP.out.1 HGR2.out (Nat.le_refl _))).setCell (p := ⟨xb, 4, none⟩) HXB.out _, HXI.out.set 4 _, ?_⟩ ?_
                          · have hset : ∀ {e : TypeId} {q s n : Nat} {v : Value} {ys : List Value}, wh.ownsRow q e s v n ys → e ≠ 40 → (wh.setCell ⟨xb, 4, none⟩ (.slice RE (rd.length + 1) rec)).ownsRow q e s v n ys := fun hv hne => own_set hv (own_ne hv HXI.out hne) _
                            have a1 := row_of_own (enc := spL) (size := 4) (by decide) (fun _ => rfl) (hset hsph (by decide))
                            have a2 := hset htlh (by decide)
                            have a3 := hset HRE.out (by decide)
                            rw [← List.flatMap_append, show y.s.tools.length + 1 = (y.s.tools ++ [t]).length by simp] at a2
                            rw [← List.flatMap_append, show rd.length + [r].length = (rd ++ [r]).length by simp] at a3
                            have a2 := row_of_own (enc := tlL) (size := 7) (by decide) (fun _ => rfl) a2
                            have a3 := row_of_own (enc := intL) (size := 1) (by decide) (fun _ => rfl) a3
                            rw [hZ, HXS.out]
                            exact ⟨a1, a2, a3⟩
                          rintro wi ⟨hni, hxi, hoi⟩
                          have HFEW := with_few HXD.out (by rw [HXS.out]; exact HF8.out) HST2.out.2.2.1 HST2.out.2.2.2 HKS.out.1 HKS.out.2.1 HKS.out.2.2 HRB.out.1 HRB.out.2 HPS.out
                          have hZf : SmFew Z := ⟨by rw [hZs, HXS.out]; exact HFW.out.sp, by rw [hZs, HXS.out]; show (y.s.tools ++ [t]).length ≤ _; rw [List.length_append, List.length_singleton]; have := HF8.out; omega, by rw [hZs, HXS.out]; show (rd ++ [r]).length ≤ _; rw [List.length_append, List.length_singleton]; have := HRL8.out; omega⟩
                          have HTZ : Hid (Calls Try.prog 32 #[.agg #[.slice sa y.s.spots.length sc, vi y.s.strain, .slice TB (y.s.tools.length + 1) tbc, vi y.s.day, .slice RE (rd.length + 1) rec]] wi fun e w' => ∃ (zs : List Ln) (A : Option Addr) (c : Nat), e = .returned (.tuple #[.slice A zs.length c, vi 0]) ∧ ((1 : Int) ≤ zs.length ∧ (zs.length : Int) ≤ P2) ∧ newer wi w') := Lib.hid (by
                            have h := turns_all Z wi hoi hZf
                            rw [hZs, HFEW.2.1, HFEW.2.2.1, hZv] at h
                            refine h.mono ?_
                            rintro e w' ⟨zs, A, c, rfl, h1, _, h3⟩
                            have h4 := congrArg List.length h1
                            rw [List.length_map] at h4
                            refine ⟨zs, A, c, rfl, ?_, h3⟩
                            rw [h4, HE2.out]
                            exact ⟨by have := HFEW.2.2.2.1; omega, HFEW.2.2.2.2⟩)
                          have HNI := Lib.hid (newer_trans HN3.out hni)
                          have x0 := hxi.at 0 (v := .slice sa y.s.spots.length sc) rfl
                          have x1 := hxi.at 1 (v := vi y.s.strain) rfl
                          have x2 := hxi.at 2 (v := .slice TB (y.s.tools.length + 1) tbc) rfl
                          have x3 := hxi.at 3 (v := vi y.s.day) rfl
                          have x4 := hxi.at 4 (v := .slice RE (rd.length + 1) rec) rfl
                          clear hni hxi hoi hZ hsph htlh hZv hZs HFEW hZf q4 f4
                          go_wp2_with fail
                          refine (HTZ.out).mono ?_
                          rintro e wj ⟨zs, ZA, zc, rfl, ⟨hz1, hz2⟩, hb⟩
                          have HNJ := Lib.hid (newer_trans HNI.out hb)
                          clear hb x0 x1 x2 x3 x4 HTZ
                          go_wp2_with fail
                          refine (awake_any _).mono ?_
                          rintro e wk ⟨rfl, hb⟩
                          have HK := Lib.hid (newer_trans (HNJ.out) hb)
                          clear hb
                          go_wp2_with fail
                          go_ret
                          exact ⟨rfl, HK.out⟩

end Go.Proofs.Ytpmafnifgegfbaa
