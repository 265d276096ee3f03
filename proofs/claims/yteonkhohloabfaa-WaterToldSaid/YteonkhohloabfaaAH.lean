/- The law WaterLevels, walked: it returns true, whatever it is given. -/
import Derived.Test.YteonkhohloabfaaAG
namespace Go.Proofs.Yteonkhohloabfaa
open Go.RowKit

theorem refAfterE (hi : Bool) (g : Gnd) (A : Option Addr) (cp : Nat) (days : List Day) (D : Option Addr) (dp : Nat) (L : Option Addr) (lp : Nat) (R : Option Addr) (rp : Nat) (hf : faultN g days = 0) (k : Nat) (hk : k ≤ days.length) (w : World)
    (hc : Row cellL 7 w w.heap.size A g.cells) (hd : Row dayL 3 w w.heap.size D days) (hL : Row intL 1 w w.heap.size L (g.cells.map fun c => endOf hi c.lo c.hi)) (hR : Row intL 1 w w.heap.size R (days.map fun d => endOf hi d.lo d.hi)) :
    Calls Try.prog 22 #[gndV A cp g, .slice D days.length dp, truthV (endOf hi g.slo g.shi) (endOf hi g.klo g.khi) L g.cells.length lp R days.length rp, .int .i64 (k : Int)] w (aftered w g.cells.length (stE hi g days k)) := by
  have := refAfter g A cp days D dp (endOf hi g.slo g.shi) (endOf hi g.klo g.khi) (g.cells.map fun c => endOf hi c.lo c.hi) L lp (days.map fun d => endOf hi d.lo d.hi) R rp (wayOk_end hi hf) (fault_cells hf).1 (List.length_map _) k hk w hc hd hL hR
  simp only [List.length_map] at this
  exact this
/-- What After has left. -/
def vAfter (n : Nat) (x : St) (v : Value) (W : World) : Prop := ∃ A cp, v = .tuple #[.slice A n cp, vi x.left, vi x.snow] ∧ Row intL 1 W W.heap.size A ((List.range n).map x.f)
theorem vAfter_st {n : Nat} {x : St} : ∀ v W W', vAfter n x v W → newer W W' → vAfter n x v W' := fun _ _ _ ⟨A, cp, h1, h2⟩ hb => ⟨A, cp, h1, (h2.below hb).more hb.size⟩
/-- A row of numbers made since. -/
def vLev (n : Nat) (f : Nat → Int) (v : Value) (W : World) : Prop := ∃ A cp, v = .slice A n cp ∧ Row intL 1 W W.heap.size A ((List.range n).map f)
theorem vLev_st {n : Nat} {f : Nat → Int} : ∀ v W W', vLev n f v W → newer W W' → vLev n f v W' := fun _ _ _ ⟨A, cp, h1, h2⟩ hb => ⟨A, cp, h1, (h2.below hb).more hb.size⟩
/-- Levels, where it refuses. -/
theorem levels_no (g : Gnd) (A : Option Addr) (ap : Nat) (days : List Day) (D : Option Addr) (dp : Nat) (w : World) (hn : g.cells.length ≤ 1000) (hm : days.length ≤ 1000) (hc : Row cellL 7 w w.heap.size A g.cells) (hd : Row dayL 3 w w.heap.size D days) (e : Int) (he : e = faultN g days) (hf : e ≠ 0) :
    Calls Try.prog 18 #[gndV A ap g, .slice D days.length dp] w fun r w' => r = .returned (.tuple #[.slice none 0 0, .slice none 0 0, .int .i64 e]) ∧ Below w.heap.size w w' := by
  subst he
  exact levels_err g A ap days D dp w hn hm hc hd hf

set_option maxRecDepth 100000 in
set_option maxHeartbeats 2000000 in
theorem waterLevels_walk (g : Gnd) (A : Option Addr) (cp : Nat) (days : List Day) (D : Option Addr) (dp : Nat) (w : World) (hc : Row cellL 7 w w.heap.size A g.cells) (hd : Row dayL 3 w w.heap.size D days) :
    Calls Try.prog 3 #[gndV A cp g, .slice D days.length dp] w fun e w' => e = .returned (.bool true) ∧ Below w.heap.size w w' := by
  have HC := Lib.hid hc
  have HD := Lib.hid hd
  clear hc hd
  cases ht : thinB g.cells.length days.length
  · have HT := Lib.hid (thin_any g cp A days.length dp D (w.alloc (.cells (gndC A cp g) 26)))
    rw [ht] at HT
    clear ht
    go_enter Try.func3, Try.ntmps3
    go_wp2_with fail
    refine (HT.out).mono ?_
    rintro e w1 ⟨rfl, hb1⟩
    have hB := below_step ((Below.refl w.heap.size w).alloc (Nat.le_refl _) _) hb1 (by simp)
    clear hb1 HT
    go_wp2_with fail
    refine (wakes_any _).mono ?_
    rintro e w2 ⟨rfl, hb2⟩
    have HF := Lib.hid (below_next hB hb2)
    clear hb2 hB
    go_wp2_with fail
    go_ret
    exact ⟨rfl, HF.out⟩
  · have hsz : g.cells.length ≤ 10 ∧ days.length ≤ 35 := by simpa [thinB] using ht
    have HT := Lib.hid (thin_any g cp A days.length dp D (w.alloc (.cells (gndC A cp g) 26)))
    rw [ht] at HT
    clear ht
    go_enter Try.func3, Try.ntmps3
    go_wp2_with fail
    refine (HT.out).mono ?_
    rintro e w1 ⟨rfl, hb1⟩
    have hB1 := below_step ((Below.refl w.heap.size w).alloc (Nat.le_refl _) (.cells (gndC A cp g) 26)) hb1 (by simp)
    have hg1 := (Whole.made w 26 (gndC A cp g)).below hb1 (by simp)
    clear hb1 HT
    have g0 := hg1.at 0 (v := .slice A g.cells.length cp) rfl
    have g1 := hg1.at 1 (v := vi g.slo) rfl
    have g2 := hg1.at 2 (v := vi g.shi) rfl
    have g3 := hg1.at 3 (v := vi g.klo) rfl
    have g4 := hg1.at 4 (v := vi g.khi) rfl
    have g5 := hg1.at 5 (v := vi g.melt) rfl
    have HG := Lib.hid (lawGround g A cp w1 (by omega) ((HC.out.below hB1).more hB1.size))
    have H1 := Lib.hid (And.intro hB1 hg1)
    clear hB1 hg1
    go_wp2_with fail
    refine (HG.out).mono ?_
    rintro e w2 ⟨A2, c2, rfl, hr2, hb2⟩
    have HDy := Lib.hid (lawDays days D dp w2 (by omega) ((HD.out.below (below_next H1.out.1 hb2)).more (below_next H1.out.1 hb2).size))
    have H2 := Lib.hid (And.intro (below_next H1.out.1 hb2) (And.intro (H1.out.2.below hb2 H1.out.2.lt) hr2))
    clear g0 g1 g2 g3 g4 g5 hr2 hb2 HG H1
    go_wp2_with fail
    refine (HDy.out).mono ?_
    rintro e w3 ⟨A3, c3, rfl, hr3, hb3⟩
    have H3 := Lib.hid (And.intro (below_next H2.out.1 hb3) (And.intro (H2.out.2.1.below hb3 H2.out.2.1.lt) (And.intro ((H2.out.2.2.below hb3).more hb3.size) hr3)))
    clear hr3 hb3 H2 HDy
    obtain ⟨er, her⟩ : ∃ er, er = faultN g days := ⟨_, rfl⟩
    have HER := Lib.hid her
    by_cases hf : er = 0
    · have hf0 : faultN g days = 0 := by rw [← her]; exact hf
      have HF := Lib.hid hf0
      have HL := Lib.hid (levels_ok g A2 c2 days A3 c3 w3 (by omega) (by omega) H3.out.2.2.1 H3.out.2.2.2 hf0 (fault_cells hf0).2)
      clear her hf hf0 HER
      go_wp2_with fail
      refine (HL.out).mono ?_
      rintro e w4 ⟨v1, v2, gb, base, rfl, hbase, htab, hb4⟩
      have hB4 := below_next H3.out.1 hb4
      have hg4 := H3.out.2.1.below hb4 H3.out.2.1.lt
      obtain ⟨B1, d1, rfl⟩ := own_form htab.own1
      obtain ⟨B2, d2, rfl⟩ := own_form htab.own2
      have g0 := hg4.at 0 (v := .slice A g.cells.length cp) rfl
      have g1 := hg4.at 1 (v := vi g.slo) rfl
      have g2 := hg4.at 2 (v := vi g.shi) rfl
      have g3 := hg4.at 3 (v := vi g.klo) rfl
      have g4 := hg4.at 4 (v := vi g.khi) rfl
      have g5 := hg4.at 5 (v := vi g.melt) rfl
      have HFT := Lib.hid (fault_any g cp A days dp D w4 (by omega) (by omega) ((HC.out.below hB4).more hB4.size) ((HD.out.below hB4).more hB4.size))
      rw [HF.out] at HFT
      have H4 := Lib.hid (And.intro hB4 (And.intro hg4 htab))
      clear hB4 hg4 htab hb4 HL H3 hbase
      go_wp2_with fail
      refine (HFT.out).mono ?_
      rintro e w5 ⟨rfl, hb5⟩
      have H5 : Hid (Below w.heap.size w w5 ∧ Whole w5 w.heap.size 26 (gndC A cp g) ∧ Tab w5 base g.cells.length (.slice B1 days.length d1) (.slice B2 days.length d2) gb days.length (fun j i => (stE false g days (j + 1)).f i) (fun j i => (stE true g days (j + 1)).f i) (fun j => (stE false g days (j + 1)).snow) (fun j => (stE true g days (j + 1)).snow)) :=
        ⟨below_next H4.out.1 hb5, H4.out.2.1.below hb5 H4.out.2.1.lt, H4.out.2.2.newer hb5⟩
      clear hb5 H4 HFT g0 g1 g2 g3 g4 g5
      go_wp2_with fail
      go_loopw [9] (fun s9 wr => ∃ k : Nat, k ≤ days.length ∧ s9 = .int .i64 k ∧ newer w5 wr) (fun s9 _ => days.length - (intOf s9).toNat)
      case atStart => exact ⟨0, Nat.zero_le _, rfl, Below.refl _ _⟩
      case round =>
        obtain ⟨k, hk, rfl, hnw⟩ := hrel
        have hBr := below_next H5.out.1 hnw
        have hgr := H5.out.2.1.below hnw H5.out.2.1.lt
        have htr := H5.out.2.2.newer hnw
        by_cases hlt : k < days.length
        · obtain ⟨q1, c1', e1⟩ := htr.form1 (by omega)
          obtain ⟨q2, c2', e2⟩ := htr.form2 (by omega)
          injection e1 with e1 _ e1'
          injection e2 with e2 _ e2'
          subst e1
          subst e1'
          subst e2
          subst e2'
          have g0 := hgr.at 0 (v := .slice A g.cells.length cp) rfl
          have g1 := hgr.at 1 (v := vi g.slo) rfl
          have g2 := hgr.at 2 (v := vi g.shi) rfl
          have g3 := hgr.at 3 (v := vi g.klo) rfl
          have g4 := hgr.at 4 (v := vi g.khi) rfl
          have g5 := hgr.at 5 (v := vi g.melt) rfl
          have hkw : IntKind.i64.wrap ((k : Int) + 1) = (k : Int) + 1 := IntWalk.i64_in _ (by omega)
          have HR := Lib.hid (And.intro hBr (And.intro hgr htr))
          have HNW := Lib.hid hnw
          clear hBr hgr htr hnw
          go_wp2_with fail
          refine wp_words (by kernel_rfl) (region_told 14 (by kernel_rfl) (by kernel_rfl) (fun W => Below wr.heap.size wr W) newer (pickD [vIs (gndV A cp g), vIs (.slice D days.length dp), vIs (gndV A cp g), vIs (.slice D days.length dp), vTruth wr.heap.size false g days, vIs (.int .i64 k), vIs (.int .i64 ((k : Int) + 1)), vAfter g.cells.length (stE false g days (k + 1)), vAfter g.cells.length (stE false g days (k + 1)), vLev g.cells.length (stE false g days (k + 1)).f, vIs (vi (stE false g days (k + 1)).left), vIs (vi (stE false g days (k + 1)).snow), vLev g.cells.length (stE false g days (k + 1)).f, vIs (vi (stE false g days (k + 1)).left)]) (fun h k => newer_trans h k) (pickD_stable _ ⟨vIs_st, vIs_st, vIs_st, vIs_st, vTruth_st, vIs_st, vIs_st, vAfter_st, vAfter_st, vLev_st, vIs_st, vIs_st, vLev_st, vIs_st, trivial⟩) (Below.refl _ wr).drew (Below.refl _ _) ?_ ?_)
          · refine ⟨?_, ?_, ?_, ?_, ?_, ?_, ?_, ?_, ?_, ?_, ?_, ?_, ?_, ?_, trivial⟩
            · intro a W hG hR hO hp
              have h2 := hO.slot 2 (by kernel_rfl)
              have c0 := keep_cell g0 hG
              have c1 := keep_cell g1 hG
              have c2 := keep_cell g2 hG
              have c3 := keep_cell g3 hG
              have c4 := keep_cell g4 hG
              have c5 := keep_cell g5 hG
              refine wp_yields (v := gndV A cp g) ?_ ⟨_, rfl, rfl, Below.refl _ _, hG⟩
              simp [slotOf] at h2
              simp [execOp, go_sem, h2, c0, c1, c2, c3, c4, c5]
            · intro a W hG hR hO hp
              have h1 := hO.slot 1 (by kernel_rfl)
              refine wp_yields (v := .slice D days.length dp) ?_ ⟨_, rfl, rfl, Below.refl _ _, hG⟩
              simp [slotOf] at h1
              simp [execOp, go_sem, h1]
            · intro a W hG hR hO hp
              have h2 := hO.slot 2 (by kernel_rfl)
              have c0 := keep_cell g0 hG
              have c1 := keep_cell g1 hG
              have c2 := keep_cell g2 hG
              have c3 := keep_cell g3 hG
              have c4 := keep_cell g4 hG
              have c5 := keep_cell g5 hG
              refine wp_yields (v := gndV A cp g) ?_ ⟨_, rfl, rfl, Below.refl _ _, hG⟩
              simp [slotOf] at h2
              simp [execOp, go_sem, h2, c0, c1, c2, c3, c4, c5]
            · intro a W hG hR hO hp
              have h1 := hO.slot 1 (by kernel_rfl)
              refine wp_yields (v := .slice D days.length dp) ?_ ⟨_, rfl, rfl, Below.refl _ _, hG⟩
              simp [slotOf] at h1
              simp [execOp, go_sem, h1]
            · intro a W hG hR hO hp
              have h75 : slotOf a 75 = gndV A cp g := hp.1
              have h76 : slotOf a 76 = .slice D days.length dp := hp.2.1
              refine wp_enters (f := 23) (args := #[gndV A cp g, .slice D days.length dp, .bool false]) ?_ ((refEnds false g A cp days D dp W (by omega) (by omega) ((HC.out.below (below_next HR.out.1 hG)).more (below_next HR.out.1 hG).size) ((HD.out.below (below_next HR.out.1 hG)).more (below_next HR.out.1 hG).size)).mono ?_)
              · simp [slotOf] at h75 h76
                simp [go_sem, h75, h76]
              · rintro e w' ⟨L, lp, R, rp, rfl, h2, h3, hb, h4, h5⟩
                exact ⟨_, rfl, _, rfl, ⟨L, lp, R, rp, rfl, h2, h3, fun a e => Nat.le_trans hG.size (h4 a e), fun a e => Nat.le_trans hG.size (h5 a e)⟩, hb, below_next hG hb⟩
            · intro a W hG hR hO hp
              have h9 := hO.slot 9 (by kernel_rfl)
              refine wp_yields (v := .int .i64 k) ?_ ⟨_, rfl, rfl, Below.refl _ _, hG⟩
              simp [slotOf] at h9
              simp [execOp, go_sem, h9]
            · intro a W hG hR hO hp
              have h78 : slotOf a 78 = .int .i64 k := hp.1
              refine wp_yields (v := .int .i64 ((k : Int) + 1)) ?_ ⟨_, rfl, rfl, Below.refl _ _, hG⟩
              simp [slotOf] at h78
              simp [execOp, go_sem, h78, hkw]
            · intro a W hG hR hO hp
              have h73 : slotOf a 73 = gndV A cp g := hp.1
              have h74 : slotOf a 74 = .slice D days.length dp := hp.2.1
              have h77 := hp.2.2.1
              have h79 : slotOf a 79 = .int .i64 ((k : Int) + 1) := hp.2.2.2.1
              obtain ⟨L, lp, R, rp, h77, h2, h3, _, _⟩ := h77
              have haf := refAfterE false g A cp days D dp L lp R rp HF.out (k + 1) (by omega) W ((HC.out.below (below_next HR.out.1 hG)).more (below_next HR.out.1 hG).size) ((HD.out.below (below_next HR.out.1 hG)).more (below_next HR.out.1 hG).size) h2 h3
              rw [show ((k + 1 : Nat) : Int) = (k : Int) + 1 by omega] at haf
              refine wp_enters (f := 22) (args := #[gndV A cp g, .slice D days.length dp, truthV (endOf false g.slo g.shi) (endOf false g.klo g.khi) L g.cells.length lp R days.length rp, .int .i64 ((k : Int) + 1)]) ?_ (haf.mono ?_)
              · simp [slotOf] at h73 h74 h77 h79
                simp [go_sem, h73, h74, h77, h79]
              · rintro e w' ⟨Ax, cx, rfl, hr, hb⟩
                exact ⟨_, rfl, _, rfl, ⟨Ax, cx, rfl, hr⟩, hb, below_next hG hb⟩
            · intro a W hG hR hO hp
              have h80 := hp.1
              obtain ⟨Ax, cx, h80, hr⟩ := h80
              refine wp_yields (v := .tuple #[.slice Ax g.cells.length cx, vi (stE false g days (k + 1)).left, vi (stE false g days (k + 1)).snow]) ?_ ⟨_, rfl, ⟨Ax, cx, rfl, hr⟩, Below.refl _ _, hG⟩
              simp [slotOf] at h80
              simp [execOp, go_sem, h80]
            · intro a W hG hR hO hp
              have h72 := hp.1
              obtain ⟨Ax, cx, h72, hr⟩ := h72
              refine wp_yields (v := .slice Ax g.cells.length cx) ?_ ⟨_, rfl, ⟨Ax, cx, rfl, hr⟩, Below.refl _ _, hG⟩
              simp [slotOf] at h72
              simp [execOp, go_sem, h72]
            · intro a W hG hR hO hp
              have h72 := hp.1
              obtain ⟨Ax, cx, h72, hr⟩ := h72
              refine wp_yields (v := vi (stE false g days (k + 1)).left) ?_ ⟨_, rfl, rfl, Below.refl _ _, hG⟩
              simp [slotOf] at h72
              simp [execOp, go_sem, h72]
            · intro a W hG hR hO hp
              have h72 := hp.1
              obtain ⟨Ax, cx, h72, hr⟩ := h72
              refine wp_yields (v := vi (stE false g days (k + 1)).snow) ?_ ⟨_, rfl, rfl, Below.refl _ _, hG⟩
              simp [slotOf] at h72
              simp [execOp, go_sem, h72]
            · intro a W hG hR hO hp
              have h81 := hp.1
              obtain ⟨Ax, cx, h81, hr⟩ := h81
              refine wp_yields (v := .slice Ax g.cells.length cx) ?_ ⟨_, rfl, ⟨Ax, cx, rfl, hr⟩, Below.refl _ _, hG⟩
              simp [slotOf] at h81
              simp [execOp, go_sem, h81]
            · intro a W hG hR hO hp
              have h82 : slotOf a 82 = vi (stE false g days (k + 1)).left := hp.1
              refine wp_yields (v := vi (stE false g days (k + 1)).left) ?_ ⟨_, rfl, rfl, Below.refl _ _, hG⟩
              simp [slotOf] at h82
              simp [execOp, go_sem, h82]
          · intro wy hG hR
            rintro _ rfl _ rfl _ rfl _ rfl _ ⟨_, _, _, _, rfl, _, _, _, _⟩ _ rfl _ rfl _ ⟨_, _, rfl, _⟩ _ ⟨_, _, rfl, _⟩ _ ⟨_, _, rfl, _⟩ _ rfl _ rfl _ ⟨A1, cp1, rfl, hrow1⟩ _ rfl
            change wpList _ _ _ _ _ _
            simp only [Act.put, List.setIfInBounds_toArray, List.set_cons_zero, List.set_cons_succ, List.drop_succ_cons, List.drop_zero]
            have HR1 := Lib.hid (And.intro (below_next HR.out.1 hG) (And.intro (HR.out.2.1.below hG HR.out.2.1.lt) (And.intro (HR.out.2.2.newer hG) hrow1)))
            have HNW1 := Lib.hid (below_next HNW.out hG)
            clear hG hR hrow1 HR HNW g0 g1 g2 g3 g4 g5
            have g0 := HR1.out.2.1.at 0 (v := .slice A g.cells.length cp) rfl
            have g1 := HR1.out.2.1.at 1 (v := vi g.slo) rfl
            have g2 := HR1.out.2.1.at 2 (v := vi g.shi) rfl
            have g3 := HR1.out.2.1.at 3 (v := vi g.klo) rfl
            have g4 := HR1.out.2.1.at 4 (v := vi g.khi) rfl
            have g5 := HR1.out.2.1.at 5 (v := vi g.melt) rfl
            go_wp2_with fail
            refine wp_words (by kernel_rfl) (region_told 14 (by kernel_rfl) (by kernel_rfl) (fun W => Below wy.heap.size wy W) newer (pickD [vIs (gndV A cp g), vIs (.slice D days.length dp), vIs (gndV A cp g), vIs (.slice D days.length dp), vTruth wy.heap.size true g days, vIs (.int .i64 k), vIs (.int .i64 ((k : Int) + 1)), vAfter g.cells.length (stE true g days (k + 1)), vAfter g.cells.length (stE true g days (k + 1)), vLev g.cells.length (stE true g days (k + 1)).f, vIs (vi (stE true g days (k + 1)).left), vIs (vi (stE true g days (k + 1)).snow), vLev g.cells.length (stE true g days (k + 1)).f, vIs (vi (stE true g days (k + 1)).left)]) (fun h k => newer_trans h k) (pickD_stable _ ⟨vIs_st, vIs_st, vIs_st, vIs_st, vTruth_st, vIs_st, vIs_st, vAfter_st, vAfter_st, vLev_st, vIs_st, vIs_st, vLev_st, vIs_st, trivial⟩) (Below.refl _ wy).drew (Below.refl _ _) ?_ ?_)
            · refine ⟨?_, ?_, ?_, ?_, ?_, ?_, ?_, ?_, ?_, ?_, ?_, ?_, ?_, ?_, trivial⟩
              · intro a W hG hR hO hp
                have h2 := hO.slot 2 (by kernel_rfl)
                have c0 := keep_cell g0 hG
                have c1 := keep_cell g1 hG
                have c2 := keep_cell g2 hG
                have c3 := keep_cell g3 hG
                have c4 := keep_cell g4 hG
                have c5 := keep_cell g5 hG
                refine wp_yields (v := gndV A cp g) ?_ ⟨_, rfl, rfl, Below.refl _ _, hG⟩
                simp [slotOf] at h2
                simp [execOp, go_sem, h2, c0, c1, c2, c3, c4, c5]
              · intro a W hG hR hO hp
                have h1 := hO.slot 1 (by kernel_rfl)
                refine wp_yields (v := .slice D days.length dp) ?_ ⟨_, rfl, rfl, Below.refl _ _, hG⟩
                simp [slotOf] at h1
                simp [execOp, go_sem, h1]
              · intro a W hG hR hO hp
                have h2 := hO.slot 2 (by kernel_rfl)
                have c0 := keep_cell g0 hG
                have c1 := keep_cell g1 hG
                have c2 := keep_cell g2 hG
                have c3 := keep_cell g3 hG
                have c4 := keep_cell g4 hG
                have c5 := keep_cell g5 hG
                refine wp_yields (v := gndV A cp g) ?_ ⟨_, rfl, rfl, Below.refl _ _, hG⟩
                simp [slotOf] at h2
                simp [execOp, go_sem, h2, c0, c1, c2, c3, c4, c5]
              · intro a W hG hR hO hp
                have h1 := hO.slot 1 (by kernel_rfl)
                refine wp_yields (v := .slice D days.length dp) ?_ ⟨_, rfl, rfl, Below.refl _ _, hG⟩
                simp [slotOf] at h1
                simp [execOp, go_sem, h1]
              · intro a W hG hR hO hp
                have h87 : slotOf a 87 = gndV A cp g := hp.1
                have h88 : slotOf a 88 = .slice D days.length dp := hp.2.1
                refine wp_enters (f := 23) (args := #[gndV A cp g, .slice D days.length dp, .bool true]) ?_ ((refEnds true g A cp days D dp W (by omega) (by omega) ((HC.out.below (below_next HR1.out.1 hG)).more (below_next HR1.out.1 hG).size) ((HD.out.below (below_next HR1.out.1 hG)).more (below_next HR1.out.1 hG).size)).mono ?_)
                · simp [slotOf] at h87 h88
                  simp [go_sem, h87, h88]
                · rintro e w' ⟨L, lp, R, rp, rfl, h2, h3, hb, h4, h5⟩
                  exact ⟨_, rfl, _, rfl, ⟨L, lp, R, rp, rfl, h2, h3, fun a e => Nat.le_trans hG.size (h4 a e), fun a e => Nat.le_trans hG.size (h5 a e)⟩, hb, below_next hG hb⟩
              · intro a W hG hR hO hp
                have h9 := hO.slot 9 (by kernel_rfl)
                refine wp_yields (v := .int .i64 k) ?_ ⟨_, rfl, rfl, Below.refl _ _, hG⟩
                simp [slotOf] at h9
                simp [execOp, go_sem, h9]
              · intro a W hG hR hO hp
                have h90 : slotOf a 90 = .int .i64 k := hp.1
                refine wp_yields (v := .int .i64 ((k : Int) + 1)) ?_ ⟨_, rfl, rfl, Below.refl _ _, hG⟩
                simp [slotOf] at h90
                simp [execOp, go_sem, h90, hkw]
              · intro a W hG hR hO hp
                have h85 : slotOf a 85 = gndV A cp g := hp.1
                have h86 : slotOf a 86 = .slice D days.length dp := hp.2.1
                have h89 := hp.2.2.1
                have h91 : slotOf a 91 = .int .i64 ((k : Int) + 1) := hp.2.2.2.1
                obtain ⟨L, lp, R, rp, h89, h2, h3, _, _⟩ := h89
                have haf := refAfterE true g A cp days D dp L lp R rp HF.out (k + 1) (by omega) W ((HC.out.below (below_next HR1.out.1 hG)).more (below_next HR1.out.1 hG).size) ((HD.out.below (below_next HR1.out.1 hG)).more (below_next HR1.out.1 hG).size) h2 h3
                rw [show ((k + 1 : Nat) : Int) = (k : Int) + 1 by omega] at haf
                refine wp_enters (f := 22) (args := #[gndV A cp g, .slice D days.length dp, truthV (endOf true g.slo g.shi) (endOf true g.klo g.khi) L g.cells.length lp R days.length rp, .int .i64 ((k : Int) + 1)]) ?_ (haf.mono ?_)
                · simp [slotOf] at h85 h86 h89 h91
                  simp [go_sem, h85, h86, h89, h91]
                · rintro e w' ⟨Ax, cx, rfl, hr, hb⟩
                  exact ⟨_, rfl, _, rfl, ⟨Ax, cx, rfl, hr⟩, hb, below_next hG hb⟩
              · intro a W hG hR hO hp
                have h92 := hp.1
                obtain ⟨Ax, cx, h92, hr⟩ := h92
                refine wp_yields (v := .tuple #[.slice Ax g.cells.length cx, vi (stE true g days (k + 1)).left, vi (stE true g days (k + 1)).snow]) ?_ ⟨_, rfl, ⟨Ax, cx, rfl, hr⟩, Below.refl _ _, hG⟩
                simp [slotOf] at h92
                simp [execOp, go_sem, h92]
              · intro a W hG hR hO hp
                have h84 := hp.1
                obtain ⟨Ax, cx, h84, hr⟩ := h84
                refine wp_yields (v := .slice Ax g.cells.length cx) ?_ ⟨_, rfl, ⟨Ax, cx, rfl, hr⟩, Below.refl _ _, hG⟩
                simp [slotOf] at h84
                simp [execOp, go_sem, h84]
              · intro a W hG hR hO hp
                have h84 := hp.1
                obtain ⟨Ax, cx, h84, hr⟩ := h84
                refine wp_yields (v := vi (stE true g days (k + 1)).left) ?_ ⟨_, rfl, rfl, Below.refl _ _, hG⟩
                simp [slotOf] at h84
                simp [execOp, go_sem, h84]
              · intro a W hG hR hO hp
                have h84 := hp.1
                obtain ⟨Ax, cx, h84, hr⟩ := h84
                refine wp_yields (v := vi (stE true g days (k + 1)).snow) ?_ ⟨_, rfl, rfl, Below.refl _ _, hG⟩
                simp [slotOf] at h84
                simp [execOp, go_sem, h84]
              · intro a W hG hR hO hp
                have h93 := hp.1
                obtain ⟨Ax, cx, h93, hr⟩ := h93
                refine wp_yields (v := .slice Ax g.cells.length cx) ?_ ⟨_, rfl, ⟨Ax, cx, rfl, hr⟩, Below.refl _ _, hG⟩
                simp [slotOf] at h93
                simp [execOp, go_sem, h93]
              · intro a W hG hR hO hp
                have h94 : slotOf a 94 = vi (stE true g days (k + 1)).left := hp.1
                refine wp_yields (v := vi (stE true g days (k + 1)).left) ?_ ⟨_, rfl, rfl, Below.refl _ _, hG⟩
                simp [slotOf] at h94
                simp [execOp, go_sem, h94]
            · intro W hG hR
              rintro _ rfl _ rfl _ rfl _ rfl _ ⟨_, _, _, _, rfl, _, _, _, _⟩ _ rfl _ rfl _ ⟨_, _, rfl, _⟩ _ ⟨_, _, rfl, _⟩ _ ⟨_, _, rfl, _⟩ _ rfl _ rfl _ ⟨A4, cp4, rfl, hrow2⟩ _ rfl
              change wpList _ _ _ _ _ _
              simp only [Act.put, List.setIfInBounds_toArray, List.set_cons_zero, List.set_cons_succ, List.drop_succ_cons, List.drop_zero]
              have HR2 := Lib.hid (And.intro (below_next HR1.out.1 hG) (And.intro ((HR1.out.2.2.2.below hG).more hG.size) (And.intro (HR1.out.2.2.1.newer hG) hrow2)))
              have HNW2 := Lib.hid (below_next HNW1.out hG)
              clear hG hR hrow2 HR1 HNW1 g0 g1 g2 g3 g4 g5
              obtain ⟨y0, y1⟩ := HR2.out.2.2.1.at2 hlt
              have z1 := HR2.out.2.2.1.at1 hlt
              have hkm : (k : Int) < days.length := by omega
              have HW : Hid (IntKind.i64.wrap ((k : Int) + 1) = (k : Int) + 1) := hkw
              clear hkw
              go_wp2_with fail
              clear y0 y1 z1
              go_loopw [16] (fun s16 wi => ∃ i : Nat, i ≤ g.cells.length ∧ s16 = .int .i64 i ∧ newer W wi) (fun s16 _ => g.cells.length - (intOf s16).toNat)
              case atStart => exact ⟨0, Nat.zero_le _, rfl, Below.refl _ _⟩
              case round =>
                obtain ⟨i, hi, rfl, hni⟩ := hrel
                by_cases hil : i < g.cells.length
                · have hti := HR2.out.2.2.1.newer hni
                  have z1 := hti.at1 hlt
                  obtain ⟨y0, y1⟩ := row_cell (hti.rows k hlt) hil
                  obtain ⟨pb1, po1, rfl, _, x1⟩ := cells_of_row (HR2.out.2.1.below hni) hil
                  obtain ⟨pb2, po2, rfl, _, x2⟩ := cells_of_row (HR2.out.2.2.2.below hni) hil
                  have him : (i : Int) < g.cells.length := by omega
                  have HNI := Lib.hid hni
                  clear hti hni
                  go_wp2_with fail
                  go_quiet (fail)
                  go_wp2_with fail
                  go_roundw
                  case rel => exact ⟨i + 1, by omega, by go_num, newer_trans HNI.out (newer_drewN _ _)⟩
                  case measure => simp [intOf]; omega
                · have HNI := Lib.hid hni
                  clear hni
                  go_wp2_with fail
                  exact ⟨⟨k + 1, by omega, by push_cast; rfl, newer_trans HNW2.out HNI.out⟩, by (simp only [intOf]; omega)⟩
        · have HNW := Lib.hid hnw
          clear hnw hBr hgr htr
          go_wp2_with fail
          refine (wakes_any _).mono ?_
          rintro e w6 ⟨rfl, hb6⟩
          have HX := Lib.hid (below_next (below_next H5.out.1 HNW.out) hb6)
          clear hb6
          go_wp2_with fail
          go_ret
          exact ⟨rfl, HX.out⟩
    · have HL := Lib.hid (levels_no g A2 c2 days A3 c3 w3 (by omega) (by omega) H3.out.2.2.1 H3.out.2.2.2 er her hf)
      have hfb : (er == 0) = false := by simpa using hf
      have hfn : (er != 0) = true := by simpa using hf
      clear her hf
      go_wp2_with fail
      refine (HL.out).mono ?_
      rintro e w4 ⟨rfl, hb4⟩
      have hB4 := below_next H3.out.1 hb4
      have hg4 := H3.out.2.1.below hb4 H3.out.2.1.lt
      have g0 := hg4.at 0 (v := .slice A g.cells.length cp) rfl
      have g1 := hg4.at 1 (v := vi g.slo) rfl
      have g2 := hg4.at 2 (v := vi g.shi) rfl
      have g3 := hg4.at 3 (v := vi g.klo) rfl
      have g4 := hg4.at 4 (v := vi g.khi) rfl
      have g5 := hg4.at 5 (v := vi g.melt) rfl
      have HFT := Lib.hid (fault_any g cp A days dp D w4 (by omega) (by omega) ((HC.out.below hB4).more hB4.size) ((HD.out.below hB4).more hB4.size))
      rw [← HER.out] at HFT
      have HB4 := Lib.hid hB4
      clear hB4 hb4 hg4 HL H3
      go_wp2_with fail
      refine (HFT.out).mono ?_
      rintro e w5 ⟨rfl, hb5⟩
      have HB5 := Lib.hid (below_next HB4.out hb5)
      clear hb5 HB4 HFT g0 g1 g2 g3 g4 g5
      go_wp2_with fail
      refine (wakes_any _).mono ?_
      rintro e w6 ⟨rfl, hb6⟩
      have HX := Lib.hid (below_next HB5.out hb6)
      clear hb6
      go_wp2_with fail
      go_ret
      exact ⟨rfl, HX.out⟩
end Go.Proofs.Yteonkhohloabfaa
