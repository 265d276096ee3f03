/- RadarFailed walked: it returns true, and leaves what was there. -/
import Derived.Test.YtpmafnifgegfbaaBA
import Derived.Test.YtpmafnifgegfbaaBB
import Derived.Test.YtpmafnifgegfbaaBH
import Derived.Test.YtpmafnifgegfbaaBI
namespace Go.Proofs.Ytpmafnifgegfbaa
open Go.RowKit Go.Shelf Go.Deep

theorem blame_rest (s : Sd) (i : Nat) : ∀ m : Nat, ∃ r : List Int, blameK s (i + m) = blameK s i ++ r ∧ ∀ a ∈ r, (i : Int) ≤ a
  | 0 => ⟨[], by rw [Nat.add_zero, List.append_nil], fun a h => by cases h⟩
  | m + 1 => by
    obtain ⟨r, h1, h2⟩ := blame_rest s i m
    refine ⟨r ++ if okS (dropS s (i + m)) (freeL (dropS s (i + m))) = true then [((i + m : Nat) : Int)] else [], ?_, fun a ha => ?_⟩
    · rw [← Nat.add_assoc, blameK_succ, h1, List.append_assoc]
    · rcases List.mem_append.1 ha with h | h
      · exact h2 a h
      · split at h
        · rw [List.mem_singleton.1 h]
          omega
        · cases h
/-- What stands at the place of a tool among those to blame. -/
theorem blame_at {s : Sd} {i n : Nat} (hi : i < n) : (okS (dropS s i) (freeL (dropS s i)) = true → (blameK s n)[(blameK s i).length]? = some (i : Int)) ∧ (okS (dropS s i) (freeL (dropS s i)) = false → ∀ a, (blameK s n)[(blameK s i).length]? = some a → (i : Int) < a) := by
  obtain ⟨r, h1, h2⟩ := blame_rest s (i + 1) (n - (i + 1))
  rw [show i + 1 + (n - (i + 1)) = n by omega, blameK_succ, List.append_assoc] at h1
  constructor
  · intro ho
    rw [h1, if_pos ho, List.getElem?_append_right (Nat.le_refl _), Nat.sub_self]
    rfl
  · intro ho a ha
    rw [h1, if_neg (by rw [ho]; decide), List.getElem?_append_right (Nat.le_refl _), Nat.sub_self, List.nil_append] at ha
    have := h2 a (List.mem_of_getElem? ha)
    omega
theorem blame_has {s : Sd} {i k : Nat} : ((k : Int) ∈ blameK s (i + 1)) ↔ ((k : Int) ∈ blameK s i ∨ (okS (dropS s i) (freeL (dropS s i)) = true ∧ i = k)) := by
  rw [blameK_succ, List.mem_append]
  refine or_congr Iff.rfl ?_
  split
  · rename_i h
    rw [List.mem_singleton]
    exact ⟨fun e => ⟨h, by omega⟩, fun e => by omega⟩
  · rename_i h
    exact ⟨fun e => (by cases e), fun e => absurd e.1 h⟩
theorem own_cap {w : World} {base : Nat} {e : TypeId} {size n c : Nat} {A : Option Addr} {xs : List Value} (h : w.ownsRow base e size (.slice A n c) n xs) : n ≤ c := by
  rcases h.2 with ⟨_, h0⟩ | ⟨g, cap, cur, hv, _, _, hnc, _⟩
  · omega
  · injection hv with _ _ e3
    omega
set_option maxRecDepth 100000 in
set_option maxHeartbeats 4000000 in
theorem radarFailed_walk (y : Sm) (ws : List Hlf) (B : Option Addr) (bc an : Nat) (read : Int) (w : World) (hok : SmOk y w) (hcap : y.s.tools.length ≤ y.tc) (hwl : ws.length ≤ maxLen) (hr : Row hwL 1 w w.heap.size B ws) (han : an ≤ 255) : Calls Try.prog 13 #[smV y, .slice B ws.length bc, .int .u8 (an : Int), vi read] w fun e w' => e = .returned (.bool true) ∧ newer w w' := by
  have hnw := newer_allocH w (.cells (smC y) 26)
  have hxb := Whole.made w 26 (smC y)
  have HRD := Lib.hid (ready_any y _ (hok.next hnw))
  have HN0 := Lib.hid (And.intro hnw hxb)
  have HOK := Lib.hid hok
  have HR := Lib.hid hr
  have HWL := Lib.hid hwl
  have HCAP := Lib.hid hcap
  have x0 := hxb.at 0 (v := .slice y.sa y.s.spots.length y.sc) rfl
  have x1 := hxb.at 1 (v := vi y.s.strain) rfl
  have x2 := hxb.at 2 (v := .slice y.ta y.s.tools.length y.tc) rfl
  have x3 := hxb.at 3 (v := vi y.s.day) rfl
  have x4 := hxb.at 4 (v := .slice y.ra y.s.reads.length y.rc) rfl
  clear hok hnw hxb hr hwl hcap
  cases ht : readyB y.s with
  | false =>
    rw [ht] at HRD
    clear ht
    go_enter Try.func13, Try.ntmps13
    go_wp2_with fail
    refine (HRD.out).mono ?_
    rintro e w1 ⟨rfl, hb1⟩
    have HN := Lib.hid (newer_trans HN0.out.1 hb1)
    clear hb1 HRD HN0 x0 x1 x2 x3 x4
    go_wp2_with fail
    refine (awake_any _).mono ?_
    rintro e wk ⟨rfl, hb⟩
    have HK := Lib.hid (newer_trans (HN.out) hb)
    clear hb
    go_wp2_with fail
    go_ret
    exact ⟨rfl, HK.out⟩
  | true =>
    have HFW := Lib.hid (ready_parts ht).1
    have HSD := Lib.hid (ready_parts ht).2.1
    rw [ht] at HRD
    clear ht
    obtain ⟨n, hn⟩ : ∃ n, n = y.s.tools.length := ⟨_, rfl⟩
    have hn8 : n ≤ 8 := by rw [hn]; exact HSD.out.few
    have HNN := Lib.hid hn
    clear hn
    by_cases hn0 : n = 0
    case pos =>
      have hnb : ((n : Int) == 0) = true := by simp [hn0]
      have hnb2 : (n == 0) = true := by simp [hn0]
      clear hn0
      go_enter Try.func13, Try.ntmps13
      go_wp2_with fail
      refine (HRD.out).mono ?_
      rintro e w1 ⟨rfl, hb1⟩
      clear x2
      have x2 := (HN0.out.2.below hb1 HN0.out.2.lt).at 2 (v := .slice y.ta y.s.tools.length y.tc) rfl
      rw [← HNN.out] at x2
      have HN := Lib.hid (newer_trans HN0.out.1 hb1)
      clear hb1 HRD HN0 x0 x1 x3 x4
      go_wp2_with fail
      refine (awake_any _).mono ?_
      rintro e wk ⟨rfl, hb⟩
      have HK := Lib.hid (newer_trans (HN.out) hb)
      clear hb
      go_wp2_with fail
      go_ret
      exact ⟨rfl, HK.out⟩
    case neg =>
      have hnb : ((n : Int) == 0) = false := by simpa using hn0
      have hnb2 : (n == 0) = false := by simpa using hn0
      have hnp : 0 < n := by omega
      clear hn0
      have HI2 := Lib.hid (fun W => in_any read (-1000) 1000 W)
      cases hb : inB read (-1000) 1000 with
      | false =>
        rw [hb] at HI2
        clear hb
        go_enter Try.func13, Try.ntmps13
        go_wp2_with fail
        refine (HRD.out).mono ?_
        rintro e w1 ⟨rfl, hb1⟩
        clear x2
        have x2 := (HN0.out.2.below hb1 HN0.out.2.lt).at 2 (v := .slice y.ta y.s.tools.length y.tc) rfl
        rw [← HNN.out] at x2
        have HN := Lib.hid (newer_trans HN0.out.1 hb1)
        clear hb1 HRD HN0 x0 x1 x3 x4
        go_wp2_with fail
        refine (HI2.out _).mono ?_
        rintro e w2 ⟨rfl, rfl⟩
        go_wp2_with fail
        refine (awake_any _).mono ?_
        rintro e wk ⟨rfl, hb⟩
        have HK := Lib.hid (newer_trans (HN.out) hb)
        clear hb
        go_wp2_with fail
        go_ret
        exact ⟨rfl, HK.out⟩
      | true =>
        rw [hb] at HI2
        have HRB := Lib.hid (inB_yes hb)
        clear hb
        go_enter Try.func13, Try.ntmps13
        go_wp2_with fail
        refine (HRD.out).mono ?_
        rintro e w1 ⟨rfl, hb1⟩
        have HB := Lib.hid (HN0.out.2.below hb1 HN0.out.2.lt)
        have HN := Lib.hid (newer_trans HN0.out.1 hb1)
        clear hb1 HRD HN0 x0 x1 x2 x3 x4
        have x0 := HB.out.at 0 (v := .slice y.sa y.s.spots.length y.sc) rfl
        have x1 := HB.out.at 1 (v := vi y.s.strain) rfl
        have x2 := HB.out.at 2 (v := .slice y.ta y.s.tools.length y.tc) rfl
        have x3 := HB.out.at 3 (v := vi y.s.day) rfl
        have x4 := HB.out.at 4 (v := .slice y.ra y.s.reads.length y.rc) rfl
        rw [← HNN.out] at x2
        go_wp2_with fail
        refine (HI2.out _).mono ?_
        rintro e w1b ⟨rfl, hw1b⟩
        subst hw1b
        clear x0 x1 x2 x3 x4
        have x0 := HB.out.at 0 (v := .slice y.sa y.s.spots.length y.sc) rfl
        have x1 := HB.out.at 1 (v := vi y.s.strain) rfl
        have x2 := HB.out.at 2 (v := .slice y.ta y.s.tools.length y.tc) rfl
        have x3 := HB.out.at 3 (v := vi y.s.day) rfl
        have x4 := HB.out.at 4 (v := .slice y.ra y.s.reads.length y.rc) rfl
        go_wp2_with fail
        refine (truthP_any y ws B bc w1 (HOK.out.next HN.out) HSD.out HWL.out ((HR.out.below HN.out).more HN.out.size)).mono ?_
        rintro e w2 hT
        clear x0 x1 x2 x3 x4
        rcases hT with ⟨f, fa, fc, hT1, rfl, hT2, hn⟩ | ⟨_, rfl, hn⟩
        case inr =>
          have HN2 := Lib.hid (newer_trans HN.out hn)
          clear hn
          go_wp2_with fail
          refine (awake_any _).mono ?_
          rintro e wk ⟨rfl, hb⟩
          have HK := Lib.hid (newer_trans (HN2.out) hb)
          clear hb
          go_wp2_with fail
          go_ret
          exact ⟨rfl, HK.out⟩
        case inl =>
          have HF := Lib.hid (truth_field hT1)
          have HFR := Lib.hid (row_of_own (enc := mvL) (size := 2) (by decide) (fun _ => rfl) hT2)
          have H2 := Lib.hid hn
          have HN2 := Lib.hid (newer_trans HN.out hn)
          clear hT1 hT2 hn
          have x0 := (HB.out.below H2.out HB.out.lt).at 0 (v := .slice y.sa y.s.spots.length y.sc) rfl
          have x1 := (HB.out.below H2.out HB.out.lt).at 1 (v := vi y.s.strain) rfl
          have x2 := (HB.out.below H2.out HB.out.lt).at 2 (v := .slice y.ta y.s.tools.length y.tc) rfl
          have x3 := (HB.out.below H2.out HB.out.lt).at 3 (v := vi y.s.day) rfl
          have x4 := (HB.out.below H2.out HB.out.lt).at 4 (v := .slice y.ra y.s.reads.length y.rc) rfl
          go_wp2_with fail
          refine (seenP_any y f fa fc ws B bc w2 (HOK.out.next HN2.out) HSD.out HF.out.1 HF.out.2 HFR.out HWL.out ((HR.out.below HN2.out).more HN2.out.size)).mono ?_
          rintro e w3 hT
          clear x0 x1 x2 x3 x4
          rcases hT with ⟨rd, l, RA, rc2, LA, lc, hT1, rfl, hT2, hn⟩ | ⟨_, rfl, hn⟩
          case inr =>
            have HN3 := Lib.hid (newer_trans HN2.out hn)
            clear hn
            go_wp2_with fail
            refine (awake_any _).mono ?_
            rintro e wk ⟨rfl, hb⟩
            have HK := Lib.hid (newer_trans (HN3.out) hb)
            clear hb
            go_wp2_with fail
            go_ret
            exact ⟨rfl, HK.out⟩
          case inl =>
            obtain ⟨hrl, htu, hmd⟩ := seen_made HSD.out hT1
            obtain ⟨k, hk⟩ : ∃ k, k = an % n := ⟨_, rfl⟩
            have hkn : k < n := by rw [hk]; exact Nat.mod_lt _ hnp
            have hki : (k : Int) < n := by omega
            have ek : (an : Int).tmod n = k := by rw [hk, Int.tmod_eq_emod_of_nonneg (by omega)]; exact (Int.natCast_emod _ _).symm
            have ean : IntKind.i64.wrap (an : Int) = an := IntWalk.i64_in _ (by omega)
            have hnz : ¬ (n : Int) = 0 := by omega
            obtain ⟨hxo, hkb⟩ := failed_law HSD.out HF.out.2 hrl (ksW_len y.s ws _) hmd (k := k) (by rw [← HNN.out]; exact hkn) HRB.out
            have hrn : rd.length = n := by rw [hrl, HNN.out]
            have ho1 := hT2.o1
            rw [hrn] at ho1 ⊢
            obtain ⟨gr, rfl, hgr⟩ := own_some ho1 hnp
            have HO1 := Lib.hid ho1
            have HXO := Lib.hid (And.intro hxo hkb)
            have HRN := Lib.hid (And.intro hrn hgr)
            have H3 := Lib.hid (newer_trans H2.out hn)
            have HN3 := Lib.hid (newer_trans HN2.out hn)
            clear hrl htu hmd hxo hkb hT1 hT2 hn ho1 hrn hgr hk HFR
            have x0 := (HB.out.below H3.out HB.out.lt).at 0 (v := .slice y.sa y.s.spots.length y.sc) rfl
            have x1 := (HB.out.below H3.out HB.out.lt).at 1 (v := vi y.s.strain) rfl
            have x2 := (HB.out.below H3.out HB.out.lt).at 2 (v := .slice y.ta y.s.tools.length y.tc) rfl
            have x3 := (HB.out.below H3.out HB.out.lt).at 3 (v := vi y.s.day) rfl
            have x4 := (HB.out.below H3.out HB.out.lt).at 4 (v := .slice y.ra y.s.reads.length y.rc) rfl
            rw [← HNN.out] at x2
            go_upto_region 11 with fail
            obtain ⟨xb, hxb⟩ : ∃ q, q = w3.heap.size := ⟨_, rfl⟩
            rw [← hxb]
            have hna := newer_allocH w3 (.cells #[.slice y.sa y.s.spots.length y.sc, vi y.s.strain, .slice y.ta n y.tc, vi y.s.day, .slice y.ra y.s.reads.length y.rc] 26)
            refine genQ (fun X => newer w3 X ∧ Whole X xb 26 #[.slice y.sa y.s.spots.length y.sc, vi y.s.strain, .slice y.ta n y.tc, vi y.s.day, .slice y.ra y.s.reads.length y.rc]) ⟨hna, by rw [hxb]; exact Whole.made _ _ _⟩ ?_
            rintro w4 ⟨hn4, hx4⟩
            have H4 := Lib.hid (And.intro hn4 hx4)
            have HXB := Lib.hid (show w3.heap.size ≤ xb by rw [hxb]; exact Nat.le_refl _)
            have z4 := hx4.at 4 rfl
            have f4 := hx4.free 4
            clear x0 x1 x2 x3 x4 hxb hna hn4 hx4
            go_upto_region 12 with fail
            have ho4 := own_below HO1.out H4.out.1
            have nxg : xb ≠ gr := fun e => own_ne ho4 H4.out.2 (by decide) (by rw [e]; rfl)
            refine genQ (fun X => newer w3 X ∧ Whole X xb 26 #[.slice y.sa y.s.spots.length y.sc, vi y.s.strain, .slice y.ta n y.tc, vi y.s.day, .slice (some ⟨gr, 0, none⟩) n rc2] ∧ X.ownsRow w2.heap.size 3 1 (.slice (some ⟨gr, 0, none⟩) n rc2) n (rd.map vi)) ⟨H4.out.1.setCell (p := ⟨xb, 4, none⟩) HXB.out _, H4.out.2.set 4 _, own_set ho4 (own_ne ho4 H4.out.2 (by decide)) _⟩ ?_
            rintro w5 ⟨hn5, hx5, ho5⟩
            have H5 := Lib.hid (And.intro hn5 (And.intro hx5 ho5))
            have z4 := hx5.at 4 (v := .slice (some ⟨gr, 0, none⟩) n rc2) rfl
            obtain ⟨r0, hr0⟩ : ∃ r, rd[k]? = some r := ⟨_, List.getElem?_eq_getElem (by rw [HRN.out.1]; exact hkn)⟩
            obtain ⟨b', o', eb, _, rk⟩ := row1 (row_of_own (enc := intL) (size := 1) (by decide) (fun _ => rfl) (show w5.ownsRow w2.heap.size 3 1 (.slice (some ⟨gr, 0, none⟩) rd.length rc2) rd.length (rd.flatMap intL) by rw [map_vi, HRN.out.1]; exact ho5)) hr0
            injection eb with eb
            injection eb with eb1 eb2
            subst eb1
            subst eb2
            rw [Nat.zero_add] at rk
            obtain ⟨cs5, hc5⟩ := own_cells ho5
            have fk := hc5.free k
            have HNX := Lib.hid nxg
            clear f4 ho4 hn5 hx5 ho5 hc5 hr0 nxg
            go_upto_region 13 with fail
            obtain ⟨X, hX⟩ : ∃ X : Sm, X = ⟨{ y.s with reads := rd.set k read }, y.sa, y.sc, y.ta, y.tc, some ⟨gr, 0, none⟩, rc2⟩ := ⟨_, rfl⟩
            have hXs : X.s = { y.s with reads := rd.set k read } := by rw [hX]
            have hXc : #[.slice y.sa y.s.spots.length y.sc, vi y.s.strain, .slice y.ta n y.tc, vi y.s.day, .slice (some ⟨gr, 0, none⟩) n rc2] = smC X := by
              rw [hX]
              show _ = (#[_, _, Value.slice _ y.s.tools.length _, _, Value.slice _ (rd.set k read).length _] : Array Value)
              rw [List.length_set, HRN.out.1, HNN.out]
            have ho6 := own_setAt (off := k) (u := vi read) H5.out.2.2
            rw [← List.map_set] at ho6
            have hn6 := (newer_trans HN3.out H5.out.1).setCell (p := ⟨gr, k, none⟩) (Nat.le_trans HN2.out.size HRN.out.2) (vi read)
            have hnx6 := (newer_trans H3.out H5.out.1).setCell (p := ⟨gr, k, none⟩) (Nat.le_trans H2.out.size HRN.out.2) (vi read)
            have hXk : SmOk X (w5.setCell ⟨gr, k, none⟩ (vi read)) := by
              rw [hX]
              refine ⟨(HOK.out.next hn6).sp, (HOK.out.next hn6).tl, ?_⟩
              show Row intL 1 _ _ _ (rd.set k read)
              refine row_of_own (enc := intL) (size := 1) (cap := rc2) (n := (rd.set k read).length) (base := w2.heap.size) (e := 3) (by decide) (fun _ => rfl) ?_
              rw [map_vi, List.length_set, HRN.out.1]
              exact ho6
            refine genQ (fun Y => newer w1 Y ∧ newer w Y ∧ Whole Y xb 26 (smC X) ∧ SmOk X Y) ⟨hnx6, hn6, by rw [← hXc]; exact H5.out.2.1.far (p := ⟨gr, k, none⟩) HNX.out _, hXk⟩ ?_
            rintro w6 ⟨hn61, hn6w, hx6, hk6⟩
            have hXf : SmFew X := ⟨by rw [hXs]; exact HFW.out.sp, by rw [hXs]; exact HFW.out.tl, by rw [hXs]; show (rd.set k read).length ≤ _; rw [List.length_set, HRN.out.1]; omega⟩
            have HX := Lib.hid (And.intro hXf (And.intro (show X.s.tools.length = n by rw [hXs]; exact HNN.out.symm) (And.intro (show X.s.reads.length = n by rw [hXs]; show (rd.set k read).length = n; rw [List.length_set]; exact HRN.out.1) (And.intro (show n ≤ X.tc by rw [hX, HNN.out]; exact HCAP.out) (show n ≤ X.rc by rw [hX]; exact own_cap H5.out.2.2)))))
            have HXD := Lib.hid (show SdOk X.s ∧ (k : Int) ∈ blameK X.s n by rw [hXs, HNN.out]; exact HXO.out)
            have H6 := Lib.hid (And.intro hn61 (And.intro hn6w (And.intro hx6 hk6)))
            clear hn61 hn6w hx6 hk6 hXf hX hXs hXc ho6 hn6 hnx6 hXk z4 rk fk H5 H4 HXO HRN HNX HO1 HF
            have hE9 : (okS X.s (freeL X.s) = true ∧ blameE X.s = 7) ∨ (okS X.s (freeL X.s) = false ∧ blameE X.s = 0 ∧ blameL X.s = blameK X.s n) := by
              have he := err_iff.2 HXD.out.1
              cases ho : okS X.s (freeL X.s) with
              | true => exact .inl ⟨rfl, by unfold blameE; rw [if_pos he, if_pos ho]⟩
              | false =>
                have e0 : blameE X.s = 0 := by
                  unfold blameE
                  rw [if_pos he, if_neg (by rw [ho]; decide), HX.out.2.1, if_neg (fun h => by have := HXD.out.2; rw [h] at this; cases this)]
                exact .inr ⟨rfl, e0, by unfold blameL; rw [if_pos e0, HX.out.2.1]⟩
            obtain ⟨E, hE⟩ : ∃ q, q = blameE X.s := ⟨_, rfl⟩
            obtain ⟨L, hL⟩ : ∃ q, q = blameL X.s := ⟨_, rfl⟩
            have HBL : Hid (∀ sa sc ta tc ra rc W, SmOk ⟨X.s, sa, sc, ta, tc, ra, rc⟩ W → Calls Try.prog 49 #[.agg #[.slice sa X.s.spots.length sc, vi X.s.strain, .slice ta X.s.tools.length tc, vi X.s.day, .slice ra X.s.reads.length rc]] W fun e w' => ∃ B d, e = .returned (.tuple #[.slice B L.length d, vi E]) ∧ w'.ownsRow W.heap.size 3 1 (.slice B L.length d) L.length (L.map vi) ∧ newer W w') := Lib.hid (fun sa sc ta tc ra rc W hW => by
              have h := blame_any ⟨X.s, sa, sc, ta, tc, ra, rc⟩ W hW (few_s (y := X) rfl HX.out.1)
              rw [← hE, ← hL] at h
              exact h)
            rw [← hE, ← hL] at hE9
            have HE9 := Lib.hid hE9
            clear hE hL hE9
            have x0 := H6.out.2.2.1.at 0 (v := .slice X.sa X.s.spots.length X.sc) rfl
            have x1 := H6.out.2.2.1.at 1 (v := vi X.s.strain) rfl
            have x2 := H6.out.2.2.1.at 2 (v := .slice X.ta X.s.tools.length X.tc) rfl
            have x3 := H6.out.2.2.1.at 3 (v := vi X.s.day) rfl
            have x4 := H6.out.2.2.1.at 4 (v := .slice X.ra X.s.reads.length X.rc) rfl
            go_wp2_with fail
            refine (survey_any X w6 H6.out.2.2.2 HX.out.1).mono ?_
            rintro e w7 ⟨sa, sc, ta, tc, ra, rc, rfl, ho, hn⟩
            have H7 := Lib.hid (And.intro ho.ok (newer_trans (newer_refl w6) hn))
            clear ho hn x0 x1 x2 x3 x4
            go_wp2_with fail
            refine (HBL.out _ _ _ _ _ _ w7 H7.out.1).mono ?_
            rintro e w8 ⟨B1, d1, rfl, hl1, hn⟩
            have H8 := Lib.hid (And.intro hl1 (newer_trans H7.out.2 hn))
            clear hl1 hn H7 HBL
            rcases HE9.out with ⟨hok7, rfl⟩ | ⟨hok0, rfl, hL0⟩
            · have hly := learn_yes HXD.out.1 hok7
              have HLX : Hid (∀ sa sc ta tc ra rc W, SmOk ⟨X.s, sa, sc, ta, tc, ra, rc⟩ W → Calls Try.prog 26 #[.agg #[.slice sa X.s.spots.length sc, vi X.s.strain, .slice ta X.s.tools.length tc, vi X.s.day, .slice ra X.s.reads.length rc]] W fun e w' => ∃ B d, e = .returned (.tuple #[.slice B (knL X.s).length d, vi 0]) ∧ w'.ownsRow W.heap.size 56 4 (.slice B (knL X.s).length d) (knL X.s).length ((knL X.s).flatMap spL) ∧ newer W w') := Lib.hid (fun sa sc ta tc ra rc W hW => by
                have h := learn_all ⟨X.s, sa, sc, ta, tc, ra, rc⟩ W hW (few_s (y := X) rfl HX.out.1)
                rw [hly.1, hly.2] at h
                exact h)
              clear hly hok7 HE9
              have x0 := (H6.out.2.2.1.below H8.out.2 H6.out.2.2.1.lt).at 0 (v := .slice X.sa X.s.spots.length X.sc) rfl
              have x1 := (H6.out.2.2.1.below H8.out.2 H6.out.2.2.1.lt).at 1 (v := vi X.s.strain) rfl
              have x2 := (H6.out.2.2.1.below H8.out.2 H6.out.2.2.1.lt).at 2 (v := .slice X.ta X.s.tools.length X.tc) rfl
              have x3 := (H6.out.2.2.1.below H8.out.2 H6.out.2.2.1.lt).at 3 (v := vi X.s.day) rfl
              have x4 := (H6.out.2.2.1.below H8.out.2 H6.out.2.2.1.lt).at 4 (v := .slice X.ra X.s.reads.length X.rc) rfl
              go_wp2_with fail
              refine (survey_any X w8 (H6.out.2.2.2.next H8.out.2) HX.out.1).mono ?_
              rintro e w9 ⟨sa2, sc2, ta2, tc2, ra2, rc2', rfl, ho, hn⟩
              have H9 := Lib.hid (And.intro ho.ok hn)
              clear ho hn x0 x1 x2 x3 x4
              go_wp2_with fail
              refine (HLX.out _ _ _ _ _ _ w9 H9.out.1).mono ?_
              rintro e w10 ⟨B2, d2, rfl, _, hn⟩
              have HN10 := Lib.hid (newer_trans H6.out.2.1 (newer_trans H8.out.2 (newer_trans H9.out.2 hn)))
              clear hn
              go_wp2_with fail
              refine (awake_any _).mono ?_
              rintro e wk ⟨rfl, hb⟩
              have HK := Lib.hid (newer_trans (HN10.out) hb)
              clear hb
              go_wp2_with fail
              go_ret
              exact ⟨rfl, HK.out⟩
            · have HL := Lib.hid hL0
              obtain ⟨LN, hLN⟩ : ∃ q, q = L.length := ⟨_, rfl⟩
              have hln8 : LN ≤ 8 := by rw [hLN, hL0]; exact Nat.le_trans (blameK_len _ _) hn8
              obtain ⟨gB, rfl, _⟩ := own_some H8.out.1 (by rw [hL0]; exact List.length_pos_of_mem HXD.out.2)
              rw [← hLN]
              have HLN := Lib.hid hLN
              clear hL0 hok0 HE9 hLN
              go_wp2_with fail
              go_loopw [20, 21, 22, 23, 24, 25] (fun s20 s21 s22 _ _ _ wr => ∃ (i c : Nat) (nm : Bool), i ≤ n ∧ s22 = vi i ∧ s21 = vi c ∧ s20 = .bool nm ∧ c = (blameK X.s i).length ∧ nm = decide ((k : Int) ∈ blameK X.s i) ∧ newer w8 wr) (fun _ _ s22 _ _ _ _ => n - (intOf s22).toNat)
              case atStart => exact ⟨0, 0, false, Nat.zero_le _, rfl, rfl, rfl, rfl, by simp [blameK], newer_refl _⟩
              case round =>
                obtain ⟨i, c, nm, hi, rfl, rfl, rfl, hc, hnm, hnx⟩ := hrel
                have HNX := Lib.hid hnx
                have HCN := Lib.hid (And.intro hc hnm)
                have hc8 : c ≤ i := by rw [hc]; exact blameK_len _ _
                have hw1r := newer_trans H6.out.1 (newer_trans H8.out.2 hnx)
                have xn := (HB.out.below hw1r HB.out.lt).at 2 (v := .slice y.ta y.s.tools.length y.tc) rfl
                rw [← HNN.out] at xn
                clear hc hnm hw1r
                by_cases hlt : i < n
                case neg =>
                  obtain rfl : i = n := by omega
                  have hge : ¬ (i : Int) < i := by omega
                  obtain rfl : nm = true := by rw [HCN.out.2]; exact decide_eq_true HXD.out.2
                  have hcl : c = LN := by rw [HCN.out.1, HLN.out, HL.out]
                  subst hcl
                  clear hnx hlt
                  go_wp2_with fail
                  refine (awake_any _).mono ?_
                  rintro e wk ⟨rfl, hb⟩
                  have HK := Lib.hid (newer_trans H6.out.2.1 (newer_trans H8.out.2 (newer_trans HNX.out hb)))
                  clear hb xn
                  go_wp2_with fail
                  go_ret
                  exact ⟨rfl, HK.out⟩
                case pos =>
                  have hin : (i : Int) < n := by omega
                  have HIN := Lib.hid hlt
                  have hwx := newer_trans H8.out.2 hnx
                  have HWX := Lib.hid hwx
                  have hbl := blame_at (s := X.s) HIN.out
                  rw [← HL.out, ← HCN.out.1] at hbl
                  have hmem := blame_has (s := X.s) (i := i) (k := k)
                  have hsuc := blameK_succ X.s i
                  have hzok := dropS_ok HXD.out.1 (k := i) (by rw [HX.out.2.1]; exact HIN.out)
                  have hl2 := learn_two hzok
                  obtain ⟨b, hb⟩ : ∃ b, b = okS (dropS X.s i) (freeL (dropS X.s i)) := ⟨_, rfl⟩
                  rw [← hb] at hbl hmem hsuc hl2
                  obtain ⟨E9, hE9⟩ : ∃ q, q = learnE (dropS X.s i) := ⟨_, rfl⟩
                  obtain ⟨LL, hLL⟩ : ∃ q, q = learnL (dropS X.s i) := ⟨_, rfl⟩
                  rw [← hE9, ← hLL] at hl2
                  have HLZ : Hid (∀ Z : Sm, Z.s = dropS X.s i → SmFew Z → ∀ sa sc ta tc ra rc W, SmOk ⟨Z.s, sa, sc, ta, tc, ra, rc⟩ W → Calls Try.prog 26 #[.agg #[.slice sa Z.s.spots.length sc, vi Z.s.strain, .slice ta Z.s.tools.length tc, vi Z.s.day, .slice ra Z.s.reads.length rc]] W fun e w' => ∃ B d, e = .returned (.tuple #[.slice B LL.length d, vi E9]) ∧ w'.ownsRow W.heap.size 56 4 (.slice B LL.length d) LL.length (LL.flatMap spL) ∧ newer W w') := Lib.hid (fun Z hz hf sa sc ta tc ra rc W hW => by
                    have e1 : learnE Z.s = E9 := by rw [hz, hE9]
                    have e2 : learnL Z.s = LL := by rw [hz, hLL]
                    have h := learn_all ⟨Z.s, sa, sc, ta, tc, ra, rc⟩ W hW (few_s (y := Z) rfl hf)
                    rw [e1, e2] at h
                    exact h)
                  have HBX := Lib.hid (And.intro hbl (And.intro hmem (And.intro hsuc (And.intro hl2 hzok))))
                  clear hbl hmem hsuc hl2 hzok hb hE9 hLL
                  have x0 := (H6.out.2.2.1.below hwx H6.out.2.2.1.lt).at 0 (v := .slice X.sa X.s.spots.length X.sc) rfl
                  have x1 := (H6.out.2.2.1.below hwx H6.out.2.2.1.lt).at 1 (v := vi X.s.strain) rfl
                  have x2 := (H6.out.2.2.1.below hwx H6.out.2.2.1.lt).at 2 (v := .slice X.ta X.s.tools.length X.tc) rfl
                  have x3 := (H6.out.2.2.1.below hwx H6.out.2.2.1.lt).at 3 (v := vi X.s.day) rfl
                  have x4 := (H6.out.2.2.1.below hwx H6.out.2.2.1.lt).at 4 (v := .slice X.ra X.s.reads.length X.rc) rfl
                  clear hwx hnx
                  go_wp2_with fail
                  refine (withoutR_any X i n wr (H6.out.2.2.2.next HWX.out) hn8 HX.out.2.1 HX.out.2.2.1 HIN.out HX.out.2.2.2.1 HX.out.2.2.2.2).mono ?_
                  rintro e w9 ⟨A, ca, B2, d2, rfl, hoz, hb⟩
                  obtain ⟨Z, hZ⟩ : ∃ Z : Sm, Z = ⟨dropS X.s i, X.sa, X.sc, A, ca, B2, d2⟩ := ⟨_, rfl⟩
                  have hZs : Z.s = dropS X.s i := by rw [hZ]
                  have hZc : .agg #[.slice X.sa X.s.spots.length X.sc, vi X.s.strain, .slice A (n - 1) ca, vi X.s.day, .slice B2 (n - 1) d2] = smV Z := by
                    rw [hZ]
                    show _ = (Value.agg #[_, _, Value.slice _ (dropS X.s i).tools.length _, _, Value.slice _ (dropS X.s i).reads.length _])
                    rw [dropS_len (by rw [HX.out.2.1]; exact HIN.out), dropS_rlen (by rw [HX.out.2.2.1]; exact HIN.out), HX.out.2.1, HX.out.2.2.1]
                    rfl
                  have hZf : SmFew Z := by
                    rw [hZ]
                    exact ⟨HX.out.1.sp, by show (dropS X.s i).tools.length ≤ _; rw [dropS_len (by rw [HX.out.2.1]; exact HIN.out), HX.out.2.1]; omega, by show (dropS X.s i).reads.length ≤ _; rw [dropS_rlen (by rw [HX.out.2.2.1]; exact HIN.out), HX.out.2.2.1]; omega⟩
                  have HZ1 : Hid (Calls Try.prog 21 #[.agg #[.slice X.sa X.s.spots.length X.sc, vi X.s.strain, .slice A (n - 1) ca, vi X.s.day, .slice B2 (n - 1) d2]] w9 fun e w' => ∃ sa sc ta tc ra rc, e = .returned (.agg #[.slice sa Z.s.spots.length sc, vi Z.s.strain, .slice ta Z.s.tools.length tc, vi Z.s.day, .slice ra Z.s.reads.length rc]) ∧ SvOwn ⟨Z.s, sa, sc, ta, tc, ra, rc⟩ w9.heap.size w' ∧ newer w9 w') := Lib.hid (by
                    rw [hZc]
                    exact survey_any Z w9 (by rw [hZ]; exact hoz) hZf)
                  have HZ := Lib.hid (And.intro hZs (And.intro hZf (newer_trans HNX.out hb)))
                  clear hoz hb hZ hZs hZc hZf x0 x1 x2 x3 x4 xn
                  go_wp2_with fail
                  refine (HZ1.out).mono ?_
                  rintro e w10 ⟨sa3, sc3, ta3, tc3, ra3, rc3, rfl, ho, hn⟩
                  have H10 := Lib.hid (And.intro ho.ok (newer_trans HZ.out.2.2 hn))
                  clear ho hn HZ1
                  go_wp2_with fail
                  refine (HLZ.out Z HZ.out.1 HZ.out.2.1 _ _ _ _ _ _ w10 H10.out.1).mono ?_
                  rintro e w11 ⟨B3, d3, rfl, _, hn⟩
                  have H11 := Lib.hid (newer_trans H10.out.2 hn)
                  clear hn H10 HZ HLZ
                  have hrow := row_of_own (enc := intL) (size := 1) (by decide) (fun _ => rfl) (show w11.ownsRow w7.heap.size 3 1 (.slice (some ⟨gB, 0, none⟩) L.length d1) L.length (L.flatMap intL) by rw [map_vi]; exact own_below H8.out.1 H11.out)
                  rcases HBX.out.2.2.2.1 with ⟨rfl, _, rfl⟩ | ⟨rfl, _, rfl⟩
                  · -- no field agrees without the tool
                    have hks : blameK X.s (i + 1) = blameK X.s i := by rw [HBX.out.2.2.1, if_neg (by decide), List.append_nil]
                    have hnm2 : nm = decide ((k : Int) ∈ blameK X.s (i + 1)) := by rw [hks]; exact HCN.out.2
                    have HGO := Lib.hid (And.intro (show c = (blameK X.s (i + 1)).length by rw [hks]; exact HCN.out.1) hnm2)
                    have HBF := Lib.hid (HBX.out.1.2 rfl)
                    clear hks hnm2
                    by_cases hcl : c < LN
                    · have hci : (c : Int) < LN := by omega
                      obtain ⟨v, hv⟩ : ∃ v, L[c]? = some v := ⟨_, List.getElem?_eq_getElem (by rw [← HLN.out]; exact hcl)⟩
                      obtain ⟨lb, lo, el, _, cv⟩ := row1 hrow hv
                      injection el with el
                      injection el with el1 el2
                      subst el1
                      subst el2
                      rw [Nat.zero_add] at cv
                      have hvi := HBF.out v hv
                      have hve : ¬ v = (i : Int) := by omega
                      have hvb : (v == (i : Int)) = false := by simpa using hve
                      clear hrow hv hvi
                      cases nm <;> (
                        go_wp2_with fail
                        refine ⟨⟨i + 1, c, _, by omega, rfl, rfl, rfl, HGO.out.1, HGO.out.2, H11.out⟩, ?_⟩
                        simp [intOf]
                        omega)
                    · have hci : ¬ (c : Int) < LN := by omega
                      clear hrow
                      cases nm <;> (
                        go_wp2_with fail
                        refine ⟨⟨i + 1, c, _, by omega, rfl, rfl, rfl, HGO.out.1, HGO.out.2, H11.out⟩, ?_⟩
                        simp [intOf]
                        omega)
                  · have hv := HBX.out.1.1 rfl
                    have hks : blameK X.s (i + 1) = blameK X.s i ++ [(i : Int)] := by rw [HBX.out.2.2.1, if_pos rfl]
                    have HC1 := Lib.hid (show c + 1 = (blameK X.s (i + 1)).length by rw [hks, List.length_append, ← HCN.out.1]; rfl)
                    have hcl : c < LN := by rw [HLN.out]; exact (List.getElem?_eq_some_iff.1 hv).1
                    have hci : (c : Int) < LN := by omega
                    obtain ⟨lb, lo, el, _, cv⟩ := row1 hrow hv
                    injection el with el
                    injection el with el1 el2
                    subst el1
                    subst el2
                    rw [Nat.zero_add] at cv
                    have HNM2 := Lib.hid (show ∀ q : Bool, q = (nm || decide (i = k)) → q = decide ((k : Int) ∈ blameK X.s (i + 1)) from fun q hq => by
                      rw [hq, HCN.out.2, Bool.eq_iff_iff, Bool.or_eq_true, decide_eq_true_eq, decide_eq_true_eq, decide_eq_true_eq, HBX.out.2.1]
                      exact or_congr Iff.rfl ⟨fun h => ⟨rfl, h⟩, fun h => h.2⟩)
                    clear hrow hv hks
                    by_cases hik : i = k
                    · subst hik
                      have hkb : ((i : Int) == (i : Int)) = true := by simp
                      have HDK := Lib.hid (decide_eq_true (rfl : i = i))
                      cases nm <;> (
                        go_wp2_with fail
                        refine ⟨⟨i + 1, c + 1, _, by omega, rfl, rfl, rfl, HC1.out, HNM2.out _ (by rw [HDK.out]; rfl), H11.out⟩, ?_⟩
                        simp [intOf]
                        omega)
                    · have hkb : ((i : Int) == (k : Int)) = false := by simp; omega
                      have hkb2 : (i == k) = false := by simpa using hik
                      have HDK := Lib.hid (decide_eq_false hik)
                      have hik2 : ¬ (i : Int) = k := by omega
                      clear hik
                      cases nm <;> (
                        go_wp2_with fail
                        refine ⟨⟨i + 1, c + 1, _, by omega, rfl, rfl, rfl, HC1.out, HNM2.out _ (by rw [HDK.out]; rfl), H11.out⟩, ?_⟩
                        simp [intOf]
                        omega)

end Go.Proofs.Ytpmafnifgegfbaa
