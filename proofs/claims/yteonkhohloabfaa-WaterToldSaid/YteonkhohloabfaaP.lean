/- Levels, where the ground with its days is valid. -/
import Derived.Test.YteonkhohloabfaaR
namespace Go.Proofs.Yteonkhohloabfaa
open Go.RowKit Go.Shelf

attribute [local go_sem] Oper.semAt_some
set_option maxRecDepth 100000 in
set_option maxHeartbeats 2000000 in
theorem levels_ok (g : Gnd) (A : Option Addr) (ap : Nat) (days : List Day) (D : Option Addr) (dp : Nat) (w : World) (hn : g.cells.length ≤ 1000) (hm : days.length ≤ 1000) (hc : Row cellL 7 w w.heap.size A g.cells) (hd : Row dayL 3 w w.heap.size D days) (hf : faultN g days = 0) (h8 : g.cells.length ≤ 8) :
    Calls Try.prog 18 #[gndV A ap g, .slice D days.length dp] w (levelsOut w g days) := by
  have HC := Lib.hid hc
  have HD := Lib.hid hd
  have HF := Lib.hid hf
  clear hc hd hf
  refine callsIn_wide.1 (callsIn_of_wp_marks (n := 9) Try.func18 rfl trivial ?_ rfl)
  simp only [Try.ntmps18, List.size_toArray, List.length_cons, List.length_nil, Nat.reduceAdd, Nat.reduceSub, Array.replicate_succ, Array.replicate_zero, List.push_toArray, List.append_toArray, List.nil_append, List.cons_append]
  gi_wp2_with fail
  refine ⟨trivial, (callsIn_wide.2 (check_any g ap A days dp D _ hn hm ((HC.out.below ((((Below.refl _ _).alloc (Nat.le_refl _) _).alloc (by simp) _).alloc (by simp; omega) _)).more (by simp; omega)) ((HD.out.below ((((Below.refl _ _).alloc (Nat.le_refl _) _).alloc (by simp) _).alloc (by simp; omega) _)).more (by simp; omega)))).mono ?_⟩
  rintro e w1 ⟨rfl, hb⟩
  rw [HF.out]
  have HA := Lib.hid ((LvA.made w (gndC A ap g)).later hb)
  clear hb
  gi_wp2_with fail
  refine genIn (LvA w (gndC A ap g)) HA.out ?_
  clear HA w1
  intro wv ha
  have e0 := ha.gb.at 0 rfl
  have e1 := ha.gb.at 1 rfl
  have e2 := ha.gb.at 2 rfl
  have e3 := ha.gb.at 3 rfl
  have e4 := ha.gb.at 4 rfl
  have e5 := ha.gb.at 5 rfl
  have hs0 := ha.l2.lt
  have HC2 := Lib.hid ((HC.out.below ha.below).more ha.below.size)
  have HD2 := Lib.hid ((HD.out.below ha.below).more ha.below.size)
  have HA := Lib.hid ha
  clear ha
  refine outer_words (by kernel_rfl) (fun _ _ h => h) (region_told 8 (by kernel_rfl) (by kernel_rfl) (fun W => Below wv.heap.size wv W) newer (pickD [vIs (gndV A ap g), vIs (.slice D days.length dp), vIs (choiceV false), vIs (gndV A ap g), vIs (.slice D days.length dp), vTruth wv.heap.size false g days, vWay wv.heap.size g A ap days D dp false, vNew wv.heap.size 107 #[.pointer none]]) (fun h k => newer_trans h k) (pickD_stable _ ⟨vIs_st, vIs_st, vIs_st, vIs_st, vIs_st, vTruth_st, vWay_st, vNew_st, trivial⟩) (Below.refl _ wv).drew (Below.refl _ _) ?_ ?_)
  · refine ⟨?_, ?_, ?_, ?_, ?_, ?_, ?_, ?_, trivial⟩
    · intro a W hG hR hO hp
      have h2 := hO.slot 2 (by kernel_rfl)
      have c0 := keep_cell e0 hG
      have c1 := keep_cell e1 hG
      have c2 := keep_cell e2 hG
      have c3 := keep_cell e3 hG
      have c4 := keep_cell e4 hG
      have c5 := keep_cell e5 hG
      refine wp_yields (v := gndV A ap g) ?_ ⟨_, rfl, rfl, Below.refl _ _, hG⟩
      simp [slotOf] at h2
      simp [execOp, go_sem, h2, c0, c1, c2, c3, c4, c5]
    · intro a W hG hR hO hp
      have h1 := hO.slot 1 (by kernel_rfl)
      refine wp_yields (v := .slice D days.length dp) ?_ ⟨_, rfl, rfl, Below.refl _ _, hG⟩
      simp [slotOf] at h1
      simp [execOp, go_sem, h1]
    · intro a W hG hR hO hp
      refine wp_enters (f := 53) (args := #[]) ?_ ((least_any _).mono ?_)
      · skip
        simp [go_sem]
      · rintro e w' ⟨rfl, hb⟩
        exact ⟨_, rfl, _, rfl, rfl, hb, below_next hG hb⟩
    · intro a W hG hR hO hp
      have h2 := hO.slot 2 (by kernel_rfl)
      have c0 := keep_cell e0 hG
      have c1 := keep_cell e1 hG
      have c2 := keep_cell e2 hG
      have c3 := keep_cell e3 hG
      have c4 := keep_cell e4 hG
      have c5 := keep_cell e5 hG
      refine wp_yields (v := gndV A ap g) ?_ ⟨_, rfl, rfl, Below.refl _ _, hG⟩
      simp [slotOf] at h2
      simp [execOp, go_sem, h2, c0, c1, c2, c3, c4, c5]
    · intro a W hG hR hO hp
      have h1 := hO.slot 1 (by kernel_rfl)
      refine wp_yields (v := .slice D days.length dp) ?_ ⟨_, rfl, rfl, Below.refl _ _, hG⟩
      simp [slotOf] at h1
      simp [execOp, go_sem, h1]
    · intro a W hG hR hO hp
      have h22 : slotOf a 22 = choiceV false := hp.1
      have h23 : slotOf a 23 = gndV A ap g := hp.2.1
      have h24 : slotOf a 24 = .slice D days.length dp := hp.2.2.1
      refine wp_enters (f := 54) (args := #[choiceV false, gndV A ap g, .slice D days.length dp]) ?_ ((truth_end false g A ap days D dp W (by omega) (by omega) ((HC2.out.below hG).more hG.size) ((HD2.out.below hG).more hG.size)).mono ?_)
      · simp [slotOf] at h22 h23 h24
        simp [go_sem, h22, h23, h24]
      · rintro e w' ⟨L, lp, R, rp, rfl, h2, h3, hb, h4, h5⟩
        exact ⟨_, rfl, _, rfl, ⟨L, lp, R, rp, rfl, h2, h3, fun a e => Nat.le_trans hG.size (h4 a e), fun a e => Nat.le_trans hG.size (h5 a e)⟩, hb, below_next hG hb⟩
    · intro a W hG hR hO hp
      have h20 : slotOf a 20 = gndV A ap g := hp.1
      have h21 : slotOf a 21 = .slice D days.length dp := hp.2.1
      have h25 := hp.2.2.1
      obtain ⟨L, lp, R, rp, h25, h2, h3, h4, h5⟩ := h25
      refine wp_enters (f := 52) (args := #[gndV A ap g, .slice D days.length dp, truthV (endOf false g.slo g.shi) (endOf false g.klo g.khi) L g.cells.length lp R days.length rp]) ?_ ((begin_end false g A ap days D dp L lp R rp W (by omega) ((HC2.out.below hG).more hG.size) ((HD2.out.below hG).more hG.size) h2 h3).mono ?_)
      · simp [slotOf] at h20 h21 h25
        simp [go_sem, h20, h21, h25]
      · rintro e w' ⟨b, rfl, hb1, hb2, hb⟩
        exact ⟨_, rfl, _, rfl, ⟨b, L, lp, R, rp, rfl, Nat.le_trans hG.size hb1, hb2, h4, h5⟩, hb, below_next hG hb⟩
    · intro a W hG hR hO hp
      refine wp_makes (v := .pointer (some ⟨W.heap.size, 0, none⟩)) (W' := W.alloc (.cells #[.pointer none] 107)) ?_ ⟨_, rfl, ⟨_, rfl, hG.size, Whole.made _ _ _⟩, (Below.refl _ _).alloc (Nat.le_refl _) _, hG.alloc hG.size _⟩
      skip
      simp [execOp, go_sem]
  · intro W hG hR
    rintro _ rfl _ rfl _ rfl _ rfl _ rfl _ ⟨_, _, _, _, rfl, hx1, hx2, hx3, hx4⟩ _ ⟨lb, L, lp, R, rp, rfl, hlb, hway, hq1, hq2⟩ _ ⟨nb, rfl, hnb, hW⟩
    change wpList _ _ _ _ _ _
    simp only [Act.put, List.setIfInBounds_toArray, List.set_cons_zero, List.set_cons_succ, List.drop_succ_cons, List.drop_zero]
    have n0 := hW.at 0 rfl
    have f0 := hW.free 0
    have HB : Hid (LvB w (gndC A ap g) wv.heap.size false g A ap days D dp nb lb L lp R rp (W.setCell ⟨nb, 0, none⟩ (.pointer (some ⟨lb, 0, none⟩)))) := by
      have ha := (HA.out).later hG
      exact ⟨⟨ha.below.setCell (p := ⟨nb, 0, none⟩) (by dsimp only; omega) _, ha.gb.far (by dsimp only; omega) _, ha.l1.far (by dsimp only; omega) _, ha.l2.far (by dsimp only; omega) _⟩, hW.set 0 _, hway.var hW _, hnb, hlb⟩
    obtain ⟨wl, hwl⟩ : ∃ wl, wl = wv.heap.size := ⟨_, rfl⟩
    rw [← hwl] at HB
    have hs1 : w.heap.size + 1 + 1 < wl := by omega
    clear hx1 hx2 hx3 hx4 hq1 hq2 hway hW hG hR hnb hlb HA HC2 HD2 hs0 e0 e1 e2 e3 e4 e5 hwl
    go_wp2_with fail
    refine onlyN_intro ?_
    gi_wp2_with fail
    obtain ⟨lv, hlv⟩ : ∃ lv, lv = nb := ⟨_, rfl⟩
    obtain ⟨lo, hlo⟩ : ∃ lo, lo = lb := ⟨_, rfl⟩
    rw [← hlv, ← hlo] at HB ⊢
    refine genIn (LvB w (gndC A ap g) wl false g A ap days D dp lv lo L lp R rp) HB.out ?_
    clear HB n0 f0 hlv hlo W wv nb lb
    intro wv hv
    have e0 := hv.a.gb.at 0 rfl
    have e1 := hv.a.gb.at 1 rfl
    have e2 := hv.a.gb.at 2 rfl
    have e3 := hv.a.gb.at 3 rfl
    have e4 := hv.a.gb.at 4 rfl
    have e5 := hv.a.gb.at 5 rfl
    have hl0 := hv.low.blk.lt
    have hl1 := hv.var.lt
    have hl2 := hv.far1
    have hl3 := hv.far2
    have HC2 := Lib.hid ((HC.out.below hv.a.below).more hv.a.below.size)
    have HD2 := Lib.hid ((HD.out.below hv.a.below).more hv.a.below.size)
    have HA := Lib.hid hv
    clear hv
    refine outer_words (by kernel_rfl) (fun _ _ h => h) (region_told 8 (by kernel_rfl) (by kernel_rfl) (fun W => Below wv.heap.size wv W) newer (pickD [vIs (gndV A ap g), vIs (.slice D days.length dp), vIs (choiceV true), vIs (gndV A ap g), vIs (.slice D days.length dp), vTruth wv.heap.size true g days, vWay wv.heap.size g A ap days D dp true, vNew wv.heap.size 107 #[.pointer none]]) (fun h k => newer_trans h k) (pickD_stable _ ⟨vIs_st, vIs_st, vIs_st, vIs_st, vIs_st, vTruth_st, vWay_st, vNew_st, trivial⟩) (Below.refl _ wv).drew (Below.refl _ _) ?_ ?_)
    · refine ⟨?_, ?_, ?_, ?_, ?_, ?_, ?_, ?_, trivial⟩
      · intro a W hG hR hO hp
        have h2 := hO.slot 2 (by kernel_rfl)
        have c0 := keep_cell e0 hG
        have c1 := keep_cell e1 hG
        have c2 := keep_cell e2 hG
        have c3 := keep_cell e3 hG
        have c4 := keep_cell e4 hG
        have c5 := keep_cell e5 hG
        refine wp_yields (v := gndV A ap g) ?_ ⟨_, rfl, rfl, Below.refl _ _, hG⟩
        simp [slotOf] at h2
        simp [execOp, go_sem, h2, c0, c1, c2, c3, c4, c5]
      · intro a W hG hR hO hp
        have h1 := hO.slot 1 (by kernel_rfl)
        refine wp_yields (v := .slice D days.length dp) ?_ ⟨_, rfl, rfl, Below.refl _ _, hG⟩
        simp [slotOf] at h1
        simp [execOp, go_sem, h1]
      · intro a W hG hR hO hp
        refine wp_enters (f := 55) (args := #[]) ?_ ((most_any _).mono ?_)
        · skip
          simp [go_sem]
        · rintro e w' ⟨rfl, hb⟩
          exact ⟨_, rfl, _, rfl, rfl, hb, below_next hG hb⟩
      · intro a W hG hR hO hp
        have h2 := hO.slot 2 (by kernel_rfl)
        have c0 := keep_cell e0 hG
        have c1 := keep_cell e1 hG
        have c2 := keep_cell e2 hG
        have c3 := keep_cell e3 hG
        have c4 := keep_cell e4 hG
        have c5 := keep_cell e5 hG
        refine wp_yields (v := gndV A ap g) ?_ ⟨_, rfl, rfl, Below.refl _ _, hG⟩
        simp [slotOf] at h2
        simp [execOp, go_sem, h2, c0, c1, c2, c3, c4, c5]
      · intro a W hG hR hO hp
        have h1 := hO.slot 1 (by kernel_rfl)
        refine wp_yields (v := .slice D days.length dp) ?_ ⟨_, rfl, rfl, Below.refl _ _, hG⟩
        simp [slotOf] at h1
        simp [execOp, go_sem, h1]
      · intro a W hG hR hO hp
        have h29 : slotOf a 29 = choiceV true := hp.1
        have h30 : slotOf a 30 = gndV A ap g := hp.2.1
        have h31 : slotOf a 31 = .slice D days.length dp := hp.2.2.1
        refine wp_enters (f := 54) (args := #[choiceV true, gndV A ap g, .slice D days.length dp]) ?_ ((truth_end true g A ap days D dp W (by omega) (by omega) ((HC2.out.below hG).more hG.size) ((HD2.out.below hG).more hG.size)).mono ?_)
        · simp [slotOf] at h29 h30 h31
          simp [go_sem, h29, h30, h31]
        · rintro e w' ⟨L, lp, R, rp, rfl, h2, h3, hb, h4, h5⟩
          exact ⟨_, rfl, _, rfl, ⟨L, lp, R, rp, rfl, h2, h3, fun a e => Nat.le_trans hG.size (h4 a e), fun a e => Nat.le_trans hG.size (h5 a e)⟩, hb, below_next hG hb⟩
      · intro a W hG hR hO hp
        have h27 : slotOf a 27 = gndV A ap g := hp.1
        have h28 : slotOf a 28 = .slice D days.length dp := hp.2.1
        have h32 := hp.2.2.1
        obtain ⟨L, lp, R, rp, h32, h2, h3, h4, h5⟩ := h32
        refine wp_enters (f := 52) (args := #[gndV A ap g, .slice D days.length dp, truthV (endOf true g.slo g.shi) (endOf true g.klo g.khi) L g.cells.length lp R days.length rp]) ?_ ((begin_end true g A ap days D dp L lp R rp W (by omega) ((HC2.out.below hG).more hG.size) ((HD2.out.below hG).more hG.size) h2 h3).mono ?_)
        · simp [slotOf] at h27 h28 h32
          simp [go_sem, h27, h28, h32]
        · rintro e w' ⟨b, rfl, hb1, hb2, hb⟩
          exact ⟨_, rfl, _, rfl, ⟨b, L, lp, R, rp, rfl, Nat.le_trans hG.size hb1, hb2, h4, h5⟩, hb, below_next hG hb⟩
      · intro a W hG hR hO hp
        refine wp_makes (v := .pointer (some ⟨W.heap.size, 0, none⟩)) (W' := W.alloc (.cells #[.pointer none] 107)) ?_ ⟨_, rfl, ⟨_, rfl, hG.size, Whole.made _ _ _⟩, (Below.refl _ _).alloc (Nat.le_refl _) _, hG.alloc hG.size _⟩
        skip
        simp [execOp, go_sem]
    · intro W hG hR
      rintro _ rfl _ rfl _ rfl _ rfl _ rfl _ ⟨_, _, _, _, rfl, hx1, hx2, hx3, hx4⟩ _ ⟨lb, L', lp', R', rp', rfl, hlb, hway, hq1, hq2⟩ _ ⟨nb, rfl, hnb, hW⟩
      change wpList _ _ _ _ _ _
      simp only [Act.put, List.setIfInBounds_toArray, List.set_cons_zero, List.set_cons_succ, List.drop_succ_cons, List.drop_zero]
      have n0 := hW.at 0 rfl
      have f0 := hW.free 0
      have HB : Hid (LvC w (gndC A ap g) g A ap days D dp lv lo L lp R rp nb lb L' lp' R' rp' (W.setCell ⟨nb, 0, none⟩ (.pointer (some ⟨lb, 0, none⟩)))) := by
        have ha := (HA.out).later hG
        refine ⟨⟨ha.a.below.setCell (p := ⟨nb, 0, none⟩) (by dsimp only; omega) _, ha.a.gb.far (by dsimp only; omega) _, ha.a.l1.far (by dsimp only; omega) _, ha.a.l2.far (by dsimp only; omega) _⟩, ha.var.far (by dsimp only; omega) _, hW.set 0 _, ha.low.var hW _, hway.var hW _, by omega, ?_, ?_, ⟨fun a e => by have := hq1 a e; omega, fun a e => by have := hq2 a e; omega⟩⟩
        · exact ⟨by omega, by omega, by omega, by omega⟩
        · exact ⟨by omega, ha.low.blk.ne ha.var (by decide), by omega, Ne.symm (hway.blk.ne hW (by decide)), Ne.symm (hway.blk.ne ha.var (by decide))⟩
      clear hx1 hx2 hx3 hx4 hq1 hq2 hway hW hG hR hnb hlb HA HC2 HD2 e0 e1 e2 e3 e4 e5 hl0 hl1 hl2 hl3
      go_wp2_with fail
      refine onlyN_intro ?_
      have v1 := HB.out.var1.at 0 rfl
      gi_wp2_with fail
      clear v1 n0 f0
      refine ⟨trivial, (callsIn_wide.2 (after_any _ _)).mono ?_⟩
      rintro e w' ⟨rfl, rfl⟩
      obtain ⟨w3, hw3⟩ : ∃ w3, w3 = W.setCell ⟨nb, 0, none⟩ (.pointer (some ⟨lb, 0, none⟩)) := ⟨_, rfl⟩
      rw [← hw3] at HB ⊢
      clear hw3 W wv
      obtain ⟨hv, hhv⟩ : ∃ hv, hv = nb := ⟨_, rfl⟩
      obtain ⟨hb, hhb⟩ : ∃ hb, hb = lb := ⟨_, rfl⟩
      rw [← hhv, ← hhb] at HB ⊢
      clear hhv hhb nb lb
      gi_wp2_with fail
      obtain ⟨r0, hr0⟩ : ∃ r0 : Unit, r0 = () := ⟨_, rfl⟩
      refine range_law (gf := 86) (lb := #[.pointer (some ⟨w3.heap.size, 0, none⟩)]) rfl (enters_of Try.func86 (by kernel_rfl) rfl) ?_
      intro r r1 r2 r3 r4 r5 r6
      simp only [World.size_alloc]
      have hcc := HB.out
      have hfar := hcc.far
      have hapart := hcc.apart
      have horder := hcc.order
      have hlo := hcc.low.blk.lt
      have hhi := hcc.high.blk.lt
      refine (callsIn_wide.1 (after1_in 8 (w3.heap.size + 1 + 1) w3.heap.size lo (mkWay g A ap days D dp false L lp R rp) (stEnd false g) (wayOk_end false HF.out)
        (fun k W => ∃ v1 v2 gb, LvJ w w3 g.cells.length lo (mkWay g A ap days D dp false L lp R rp) (stE false g days k) r v1 v2 gb k (fun j i => (stE false g days (j + 1)).f i) (fun _ _ => 0) (fun j => (stE false g days (j + 1)).snow) (fun _ => 0) W)
        (fun _ => False) ?hJ ?hY _ ?h0)).mono ?_
      case hJ =>
        rintro k W ⟨v1, v2, gb, hj⟩
        exact ⟨hj.box.at 0 rfl, by omega, hj.low⟩
      case h0 =>
        refine ⟨_, _, fun _ => 0, ?_, ?_, ?_, ?_, ((hcc.a.l1.alloc _).alloc _).alloc _, ((hcc.a.l2.alloc _).alloc _).alloc _, ((hcc.low.alloc _).alloc _).alloc _, Tab.empty_ _ _ _ _ _ _ _ _, by omega⟩
        · (simp only [heap_if, World.size_alloc]; (repeat rw [if_neg (by omega)]); rfl)
        · (simp only [heap_if, World.size_alloc]; (repeat rw [if_neg (by omega)]); rfl)
        · (simp only [Whole, heap_if, World.size_alloc]; (repeat rw [if_neg (by omega)]); rfl)
        · exact (Kept.refl _ w3).newer ((((Below.refl _ _).alloc (Nat.le_refl _) _).alloc (by simp) _).alloc (by simp; omega) _)
      case hY =>
        rintro k W W' hk ⟨v1, v2, gb, hj⟩ hg hw'
        have hj1 := hj.way (x' := stE false g days (k + 1)) hg hw'
        refine yield_round (r := r) hj1.loop r1 r2 (by rw [r4]; rfl) ?_
        rw [r3, r4, r5, r6]
        simp only [List.zip_toArray, List.zip_cons_cons, List.zip_nil_right, List.foldl_toArray, List.foldl_cons, List.foldl_nil, List.setIfInBounds_toArray, List.set_cons_zero, List.set_cons_succ]
        gi_wp2_with fail
        refine ⟨hj1.loop, ?_⟩
        have hj5 := hj1.put (busyOf r)
        obtain ⟨w5, hw5e⟩ : ∃ w5, w5 = W'.putObj (w3.heap.size + 1 + 1) (.loop (busyOf r)) := ⟨_, rfl⟩
        rw [← hw5e] at hj5 ⊢
        have g0 := (hj5.keep.whole hcc.a.gb (by omega)).at 0 (v := .slice A g.cells.length ap) rfl
        have hn30 : g.cells.length ≤ 8 := h8
        have HJ5 := Lib.hid hj5
        have HCC := Lib.hid hcc
        obtain ⟨n, hnn⟩ : ∃ n, n = g.cells.length := ⟨_, rfl⟩
        rw [← hnn] at g0 hn30
        have hmk := fun (W : World) => make_row W n (by omega)
        have HNN := Lib.hid hnn
        clear hw5e hj5 hj1 hj hg hw' r1 r2 r3 r4 r5 r6 hcc HB hnn
        gi_wp2_with fail
        clear g0 hmk
        obtain ⟨rb, hrb⟩ : ∃ rb, rb = w5.heap.size := ⟨_, rfl⟩
        have HM5 : Hid (w5.grownBy (w5.alloc (.cells (rowCs n (fun _ => 0) (fun _ => 0)) 36)) (some rb) ∧ Whole (w5.alloc (.cells (rowCs n (fun _ => 0) (fun _ => 0)) 36)) rb 36 (rowCs n (fun _ => 0) (fun _ => 0))) := ⟨grown_alloc (grown_refl _ _) _, hrb ▸ Whole.made _ _ _⟩
        rw [← hrb]
        have hrb' : w5.heap.size ≤ rb := by omega
        clear hrb
        gi_loopw [11, 44] (fun _ i wr => ∃ q : Nat, q ≤ n ∧ i = .int .i64 q ∧ w5.grownBy wr (some rb) ∧ Whole wr rb 36 (rowCs n (fun p => if p < q then (stE false g days (k + 1)).f p else 0) (fun _ => 0))) (fun _ i _ => n - (intOf i).toNat)
        case atStart => exact ⟨0, Nat.zero_le _, rfl, HM5.out.1, HM5.out.2⟩
        case round =>
          obtain ⟨q, hq, rfl, hgr, hrow⟩ := hrel
          clear HM5
          have hj6 := HJ5.out.fresh hgr hrb'
          have hcc := HCC.out
          by_cases hqn : q < n
          · have vL := (hj6.keep.whole hcc.var1 (by omega)).at 0 rfl
            have cl := hj6.low.blk.at (11 + q) (wayCs_level _ _ _ _ (show q < 8 by omega))
            have cr := hrow.at (q * 2) (rowCs_lo _ _ hqn)
            have fr := hrow.free (q * 2)
            have hq8 : (q : Int) < 8 := by omega
            have HR : Hid (w5.grownBy (wr.setCell ⟨rb, q * 2, none⟩ (vi ((stE false g days (k + 1)).f q))) (some rb) ∧ Whole (wr.setCell ⟨rb, q * 2, none⟩ (vi ((stE false g days (k + 1)).f q))) rb 36 (rowCs n (fun p => if p < q + 1 then (stE false g days (k + 1)).f p else 0) (fun _ => 0))) := by
              refine ⟨grown_set (p := ⟨rb, q * 2, none⟩) hgr (.inl rfl) _, ?_⟩
              have := hrow.set (q * 2) (vi ((stE false g days (k + 1)).f q))
              rw [rowCs_set_lo _ _ (fun p => if p < q + 1 then (stE false g days (k + 1)).f p else 0) hqn _ (fun j _ => by
                by_cases h1 : j = q
                · subst h1; simp
                · rw [if_neg h1]
                  by_cases h2 : j < q
                  · rw [if_pos h2, if_pos (by omega)]
                  · rw [if_neg h2, if_neg (by omega)])] at this
              exact this
            clear hj6 hcc hrow hgr
            gi_wp2_with fail
            go_roundw
            case rel => exact ⟨q + 1, by omega, by go_num, HR.out.1, HR.out.2⟩
            case measure => simp [intOf]; omega
          · have hqe : q = n := by omega
            subst hqe
            have hrow7 : Whole wr rb 36 (rowCs q ((stE false g days (k + 1)).f) (fun _ => 0)) := by
              have := hrow
              rw [rowCs_congr (lo' := (stE false g days (k + 1)).f) (hi' := fun _ => 0) (fun i hi => if_pos hi) (fun _ _ => rfl)] at this
              exact this
            clear hrow
            gi_wp2_with fail
            obtain ⟨w7, hw7⟩ : ∃ w7, w7 = wr := ⟨_, rfl⟩
            rw [← hw7] at hj6 hgr hrow7 ⊢
            clear hw7
            rw [← HNN.out] at hj6
            have hlvlt := hcc.var1.lt
            obtain ⟨A1, c1, rfl⟩ := own_form hj6.tab.own1
            obtain ⟨A2, c2, rfl⟩ := own_form hj6.tab.own2
            have hnv := own_ge hj6.tab.own1
            have hnl := own_lt hj6.tab.own1
            have e1 := hj6.l1.at 0 rfl
            have e2 := hj6.l2.at 0 rfl
            have e3 := (hj6.keep.whole hcc.var1 (by omega)).at 0 rfl
            have e4 := hj6.low.blk.at 19 (v := vi (stE false g days (k + 1)).snow) rfl
            have HJ7 := Lib.hid hj6
            obtain ⟨i31, hi0, hz0, hz1, hz2⟩ := info_parts Try.info31
            have HI31 := Lib.hid (And.intro hi0 (And.intro hz0 (And.intro hz1 hz2)))
            clear hi0 hz0 hz1 hz2
            obtain ⟨i36, hi0, hz0, hz1, hz2⟩ := info_parts Try.info36
            have HI36 := Lib.hid (And.intro hi0 (And.intro hz0 (And.intro hz1 hz2)))
            have hkd : k < days.length := hk
            have hmm : days.length ≤ 30 := (wayOk_end false HF.out).many
            have HRW := Lib.hid (And.intro hrow7 hgr)
            have hs7 := (Array.getElem?_eq_some_iff.1 hj6.loop).1
            clear hi0 hz0 hz1 hz2 hj6 hgr hrow7 hcc
            refine round_words (by kernel_rfl) (by kernel_rfl) (fun _ _ h => h) (region_tale 11 (by kernel_rfl) (by kernel_rfl) 3 (fun W => w7.grownBy W (Value.slice A1 k c1).ownBlock) (fun W => W.ownsRow (w3.heap.size + 1 + 1 + 1) 31 1 (.slice A1 k c1) k ((List.range k).map fun j => Value.slice (some ⟨gb j, 0, none⟩) q q)) (relAt 3 (fun W W' => W.grownBy W' (Value.slice A1 k c1).ownBlock)) (pickD [vIs (.slice A1 k c1), vIs (.slice (some ⟨rb, 0, none⟩) q q), vOne w7.heap.size 31 #[.slice (some ⟨rb, 0, none⟩) q q], vApp w7.heap.size (w3.heap.size + 1 + 1 + 1) 31 1 (k + 1) (((List.range k).map fun j => Value.slice (some ⟨gb j, 0, none⟩) q q) ++ [.slice (some ⟨rb, 0, none⟩) q q]) (Value.slice A1 k c1).ownBlock, vIs (.slice A2 k c2), vIs (.pointer (some ⟨lo, 0, none⟩)), vIs (.pointer (some ⟨lo, 0, none⟩)), vIs (.pointer (some ⟨lo, 19, none⟩)), vIs (vi (stE false g days (k + 1)).snow), vIs (.agg #[vi (stE false g days (k + 1)).snow, vi 0]), vOne w7.heap.size 36 #[vi (stE false g days (k + 1)).snow, vi 0]]) (allBut_ok (fun _ _ h => grown_of_newer h _) _ ⟨vIs_st, vIs_st, vOne_grown hnl, vApp_st, vIs_st, vIs_st, vIs_st, vIs_st, vIs_st, vIs_st, vOne_grown hnl, trivial⟩) (by decide) (grown_drew (grown_refl _ _)) HJ7.out.tab.own1 ?_ ?_)
            · refine ⟨?_, ?_, ?_, ?_, ?_, ?_, ?_, ?_, ?_, ?_, ?_, trivial⟩
              · intro a W hG hG1 hO hp
                have h4 := hO.slot 4 (by kernel_rfl)
                have c0 := keep_low e1 hG hnv (by dsimp only; omega)
                refine wp_yields (v := .slice A1 k c1) ?_ ⟨_, rfl, rfl, newer_refl _, hG, fun _ h => h⟩
                simp [slotOf] at h4
                simp [execOp, go_sem, h4, c0]
              · intro a W hG hG1 hO hp
                have h10 := hO.slot 10 (by kernel_rfl)
                refine wp_yields (v := .slice (some ⟨rb, 0, none⟩) q q) ?_ ⟨_, rfl, rfl, newer_refl _, hG, fun _ h => h⟩
                simp [slotOf] at h10
                simp [execOp, go_sem, h10]
              · intro a W hG hG1 hO hp
                have h59 : slotOf a 59 = .slice (some ⟨rb, 0, none⟩) q q := hp.1
                refine wp_makes (v := .slice (some ⟨W.heap.size, 0, none⟩) 1 1) (W' := W.alloc (.cells #[.slice (some ⟨rb, 0, none⟩) q q] 31)) ?_ ⟨_, rfl, ⟨_, rfl, hG.size, Whole.made _ _ _⟩, (Below.refl _ _).alloc (Nat.le_refl _) _, grown_alloc hG _, fun _ h => h.alloc _⟩
                simp [slotOf] at h59
                simp [execOp, go_sem, h59]
              · intro a W hG hG1 hO hp
                have h58 : slotOf a 58 = .slice A1 k c1 := hp.1
                have h60 := hp.2.1
                obtain ⟨nb, h60, hnb, hW⟩ := h60
                have ho := hG1 rfl
                obtain ⟨hi0, hz0, hz1, hz2⟩ := HI31.out
                refine wp_append_lies W (.tmp 58) (.tmp 60) 30 rfl (w3.heap.size + 1 + 1 + 1) 31 i31 (.slice none 0 0) 1 24 Try.underlying30 hi0 hz0 hz1 hz2 rfl (by omega) (.slice A1 k c1) k _ ((eval_slot a 58).trans h58) ho ⟨nb, 0, none⟩ 1 1 [.slice (some ⟨rb, 0, none⟩) q q] ((eval_slot a 60).trans h60) rfl (World.news_of_block hW) (by simp [Value.oneCell']) (by omega) (by unfold maxLen; omega) (by omega) (by have := hG.size; omega) W.heap.size rfl ?_
                intro gg cap w1 hown1 hgrow hat hlt1
                exact ⟨_, rfl, ⟨gg, cap, rfl, hown1, hat.imp id (fun e => by have := hG.size; omega)⟩, hgrow, grown_trans' hG hgrow, fun e => absurd rfl e⟩
              · intro a W hG hG1 hO hp
                have h5 := hO.slot 5 (by kernel_rfl)
                have c0 := keep_low e2 hG hnv (by dsimp only; omega)
                refine wp_yields (v := .slice A2 k c2) ?_ ⟨_, rfl, rfl, newer_refl _, hG, fun _ h => h⟩
                simp [slotOf] at h5
                simp [execOp, go_sem, h5, c0]
              · intro a W hG hG1 hO hp
                have h8 := hO.slot 8 (by kernel_rfl)
                have c0 := keep_low e3 hG hnv (by dsimp only; omega)
                refine wp_yields (v := .pointer (some ⟨lo, 0, none⟩)) ?_ ⟨_, rfl, rfl, newer_refl _, hG, fun _ h => h⟩
                simp [slotOf] at h8
                simp [execOp, go_sem, h8, c0]
              · intro a W hG hG1 hO hp
                have h63 : slotOf a 63 = .pointer (some ⟨lo, 0, none⟩) := hp.1
                refine wp_yields (v := .pointer (some ⟨lo, 0, none⟩)) ?_ ⟨_, rfl, rfl, newer_refl _, hG, fun _ h => h⟩
                simp [slotOf] at h63
                simp [execOp, go_sem, h63]
              · intro a W hG hG1 hO hp
                have h64 : slotOf a 64 = .pointer (some ⟨lo, 0, none⟩) := hp.1
                refine wp_yields (v := .pointer (some ⟨lo, 19, none⟩)) ?_ ⟨_, rfl, rfl, newer_refl _, hG, fun _ h => h⟩
                simp [slotOf] at h64
                simp [execOp, go_sem, h64]
              · intro a W hG hG1 hO hp
                have h65 : slotOf a 65 = .pointer (some ⟨lo, 19, none⟩) := hp.1
                have c0 := keep_low e4 hG hnv (by dsimp only; omega)
                refine wp_yields (v := vi (stE false g days (k + 1)).snow) ?_ ⟨_, rfl, rfl, newer_refl _, hG, fun _ h => h⟩
                simp [slotOf] at h65
                simp [execOp, go_sem, h65, c0]
              · intro a W hG hG1 hO hp
                have h66 : slotOf a 66 = vi (stE false g days (k + 1)).snow := hp.1
                refine wp_yields (v := .agg #[vi (stE false g days (k + 1)).snow, vi 0]) ?_ ⟨_, rfl, rfl, newer_refl _, hG, fun _ h => h⟩
                simp [slotOf] at h66
                simp [execOp, go_sem, h66]
              · intro a W hG hG1 hO hp
                have h67 : slotOf a 67 = .agg #[vi (stE false g days (k + 1)).snow, vi 0] := hp.1
                refine wp_makes (v := .slice (some ⟨W.heap.size, 0, none⟩) 1 1) (W' := W.alloc (.cells #[vi (stE false g days (k + 1)).snow, vi 0] 36)) ?_ ⟨_, rfl, ⟨_, rfl, hG.size, Whole.made _ _ _⟩, (Below.refl _ _).alloc (Nat.le_refl _) _, grown_alloc hG _, fun _ h => h.alloc _⟩
                simp [slotOf] at h67
                simp [execOp, go_sem, h67]
            · intro W hG
              rintro _ rfl _ rfl _ ⟨nb1, rfl, hnb1, hW1⟩ _ ⟨g1, cp1, rfl, hown1, hat1⟩ _ rfl _ rfl _ rfl _ rfl _ rfl _ rfl _ ⟨nb2, rfl, hnb2, hW2⟩
              change wpList _ _ _ _ _ _
              simp only [Act.put, List.setIfInBounds_toArray, List.set_cons_zero, List.set_cons_succ, List.drop_succ_cons, List.drop_zero]
              have hj7 := HJ7.out
              obtain ⟨hrow7, hgr7⟩ := HRW.out
              obtain ⟨hi0, hz0, hz1, hz2⟩ := HI36.out
              have o2W : W.ownsRow (w3.heap.size + 1 + 1 + 1) 36 2 (.slice A2 k c2) k ((List.range k).flatMap fun j => [vi (stE false g days (j + 1)).snow, vi 0]) := by
                rcases Option.eq_none_or_eq_some (Value.slice A2 k c2).ownBlock with e | ⟨z, e⟩
                · exact hj7.tab.own2.kept hG (.inl e)
                · exact hj7.tab.own2.kept hG (.inr (fun e' => own_own_ne hj7.tab.own2 hj7.tab.own1 (by decide) z e (e'.symm.trans e)))
              refine wpList_append_lies _ rfl (.tmp 62) (.tmp 68) 31 rfl (w3.heap.size + 1 + 1 + 1) 36 i36 (.agg #[.int .i64 0, .int .i64 0]) 2 16 Try.underlying31 hi0 hz0 hz1 hz2 rfl (by omega) _ k _ rfl o2W ⟨nb2, 0, none⟩ 1 1 [vi (stE false g days (k + 1)).snow, vi 0] rfl rfl (World.news_of_block hW2) (by simp [Value.oneCell']) (by omega) (by unfold maxLen; omega) (by omega) (by have := hG.size; omega) W.heap.size rfl ?_
              intro g2 cp2 w8 hown2 hgrow2 hat2 hlt2
              have ht8 := hj7.tab.add (rb := rb) hrow7 (by have := (HJ5.out).tab; have := (Array.getElem?_eq_some_iff.1 (HJ5.out).loop).1; omega) (fun j hj e => by have := ((HJ5.out).tab.rows j hj).lt; omega) (fun e => by have := own_lt (HJ5.out).tab.own2 _ e; omega) hG hown1 hgrow2 hown2 (hat2.imp id (fun e => by have := hG.size; omega))
              have hj9 := (hj7.add hG hgrow2 ht8).put r
              have hb8 : Below (w3.heap.size + 1 + 1 + 1) w7 w8 := (below_grown hG hnv (by omega)).trans (below_grown hgrow2 (own_ge o2W) (by have := hG.size; omega))
              have y1 := (hj7.l1.below hb8 (by omega)).at 0 rfl
              have y2 := (hj7.l1.below hb8 (by omega)).free 0
              have y3 := (hj7.l2.below hb8 (by omega)).at 0 rfl
              have y4 := (hj7.l2.below hb8 (by omega)).free 0
              have HX : Hid (((w8.setCell ⟨w.heap.size + 1, 0, none⟩ (.slice (some ⟨g1, 0, none⟩) (k + 1) cp1)).setCell ⟨w.heap.size + 1 + 1, 0, none⟩ (.slice (some ⟨g2, 0, none⟩) (k + 1) cp2)).heap[w3.heap.size + 1 + 1]? = some (.loop (busyOf r)) ∧ ∃ v1 v2 gb, LvJ w w3 g.cells.length lo (mkWay g A ap days D dp false L lp R rp) (stE false g days (k + 1)) r v1 v2 gb (k + 1) (fun j i => (stE false g days (j + 1)).f i) (fun _ _ => 0) (fun j => (stE false g days (j + 1)).snow) (fun _ => 0) (((w8.setCell ⟨w.heap.size + 1, 0, none⟩ (.slice (some ⟨g1, 0, none⟩) (k + 1) cp1)).setCell ⟨w.heap.size + 1 + 1, 0, none⟩ (.slice (some ⟨g2, 0, none⟩) (k + 1) cp2)).putObj (w3.heap.size + 1 + 1) (.loop r))) := by
                have hj10 := hj9
                rw [HNN.out] at hj10
                exact ⟨(hj7.add hG hgrow2 ht8).loop, _, _, _, hj10⟩
              clear hj9 ht8 hb8 hown2 hgrow2 hat2 hlt2 o2W hrow7 hgr7 hi0 hz0 hz1 hz2 hj7 hown1 hat1 hG hW1 hW2 hnb1 hnb2 e1 e2 e3 e4 hnv hnl HRW HJ7 HJ5 HCC
              go_wp2_with fail
              refine onlyN_intro ?_
              gi_wp2_with fail
              exact ⟨HX.out.1, rfl, HX.out.2⟩
      · rintro e W ⟨⟨v, rfl⟩, ⟨v1, v2, gb, hj⟩ | hfalse⟩
        · refine ⟨⟨_, rfl⟩, .inl ⟨hj.loop, ?_⟩⟩
          have hj1 := hj.put (overOf r)
          have hcc := HB.out
          have e3 := (hj1.keep.whole hcc.var2 (by omega)).at 0 rfl
          have HJ1 := Lib.hid hj1
          clear hj1 hj r1 r2 r3 r4 r5 r6 hcc
          gi_wp2_with fail
          refine ⟨trivial, (callsIn_wide.2 (after_any _ _)).mono ?_⟩
          rintro e w' ⟨rfl, rfl⟩
          obtain ⟨w4, hw4⟩ : ∃ w4, w4 = W.putObj (w3.heap.size + 1 + 1) (.loop (overOf r)) := ⟨_, rfl⟩
          rw [← hw4] at HJ1 ⊢
          clear hw4 e3
          gi_wp2_with fail
          refine range_law (gf := 86) (lb := #[.pointer (some ⟨w4.heap.size, 0, none⟩)]) rfl (enters_of Try.func86 (by kernel_rfl) rfl) ?_
          intro r' r1 r2 r3 r4 r5 r6
          simp only [World.size_alloc]
          have hj := HJ1.out
          have hcc := HB.out
          have hs4 := (Array.getElem?_eq_some_iff.1 hj.loop).1
          have hmany := (wayOk_end true HF.out).many
          have hhv := hcc.var2.lt
          refine (callsIn_wide.1 (after1_in 8 (w4.heap.size + 1 + 1) w4.heap.size hb (mkWay g A ap days D dp true L' lp' R' rp') (stEnd true g) (wayOk_end true HF.out)
            (fun k W => LvK w w3 w4 g.cells.length lo hb (mkWay g A ap days D dp true L' lp' R' rp') (stE true g days k) r' v1 v2 gb days.length (fun j i => (stE false g days (j + 1)).f i) (fun j i => if j < k then (stE true g days (j + 1)).f i else 0) (fun j => (stE false g days (j + 1)).snow) (fun j => if j < k then (stE true g days (j + 1)).snow else 0) W)
            (fun _ => False) ?hJ ?hY _ ?h0)).mono ?_
          case hJ =>
            intro k W hj
            exact ⟨hj.box.at 0 rfl, by omega, hj.high⟩
          case h0 =>
            have hbw : Below w.heap.size w w4 := hcc.a.below.trans (hj.keep.below hcc.a.below.size (fun i hi => by omega))
            have hhigh : OnWay w4 hb (mkWay g A ap days D dp true L' lp' R' rp') (stEnd true g).f (stEnd true g).snow 0 :=
              ⟨hj.keep.whole hcc.high.blk (by omega), (HC.out.below hbw).more (by omega), (HD.out.below hbw).more (by omega), hj.keep.row hcc.high.levels (by omega) (fun a e => by have := hcc.lists.1 a e; omega), hj.keep.row hcc.high.rain (by omega) (fun a e => by have := hcc.lists.2 a e; omega)⟩
            have hnw : newer w4 (((w4.alloc (.cells #[.pointer (some ⟨hb, 0, none⟩)] 107)).alloc (.deferred (some []))).alloc (.loop r')) := (((Below.refl _ _).alloc (Nat.le_refl _) _).alloc (by simp) _).alloc (by simp; omega) _
            have hk4 : Kept (fun i => i = w.heap.size + 1 ∨ i = w.heap.size + 1 + 1 ∨ i = lo ∨ i = hb) w3 w4 := ⟨hj.keep.os, hj.keep.tape, hj.keep.output, hj.keep.size, fun i hi hx => hj.keep.block i hi (by omega)⟩
            refine ⟨?_, ?_, ?_, ?_, hk4.newer hnw, ((hj.l1.alloc _).alloc _).alloc _, ((hj.l2.alloc _).alloc _).alloc _, ((hhigh.alloc _).alloc _).alloc _, ?_, by omega, own_lt hj.tab.own1, own_lt hj.tab.own2, fun j hj' => (hj.tab.rows j hj').lt⟩
            · (simp only [heap_if, World.size_alloc]; (repeat rw [if_neg (by omega)]); rfl)
            · (simp only [heap_if, World.size_alloc]; (repeat rw [if_neg (by omega)]); rfl)
            · exact (hnw.block _ (by omega)).trans hj.dfr
            · (simp only [Whole, heap_if, World.size_alloc]; (repeat rw [if_neg (by omega)]); rfl)
            · have ht := hj.tab.newer hnw
              have h1 : (fun j i => if j < 0 then (stE true g days (j + 1)).f i else 0) = fun _ _ => (0 : Int) := by funext j i; simp
              have h2 : (fun j => if j < 0 then (stE true g days (j + 1)).snow else 0) = fun _ => (0 : Int) := by funext j; simp
              rw [h1, h2]
              exact ht
          case hY =>
            intro k W W' hk hj hg hw'
            have hj1 := hj.way (x' := stE true g days (k + 1)) hg hw'
            refine yield_round (r := r') hj1.loop r1 r2 (by rw [r4]; rfl) ?_
            rw [r3, r4, r5, r6]
            simp only [List.zip_toArray, List.zip_cons_cons, List.zip_nil_right, List.foldl_toArray, List.foldl_cons, List.foldl_nil, List.setIfInBounds_toArray, List.set_cons_zero, List.set_cons_succ]
            gi_wp2_with fail
            refine ⟨hj1.loop, ?_⟩
            have hj5 := hj1.put (busyOf r')
            obtain ⟨w5, hw5e⟩ : ∃ w5, w5 = W'.putObj (w4.heap.size + 1 + 1) (.loop (busyOf r')) := ⟨_, rfl⟩
            rw [← hw5e] at hj5 ⊢
            have g0 := (hj5.keep.whole hcc.a.gb (by omega)).at 0 (v := .slice A g.cells.length ap) rfl
            have hn30 : g.cells.length ≤ 8 := h8
            have hkd : k < days.length := hk
            obtain ⟨q1, c1, rfl⟩ := hj5.tab.form1 (by omega)
            obtain ⟨q2, c2, rfl⟩ := hj5.tab.form2 (by omega)
            obtain ⟨n, hnn⟩ : ∃ n, n = g.cells.length := ⟨_, rfl⟩
            rw [← hnn] at g0 hn30 hj5
            have HJ5 := Lib.hid hj5
            have HCC := Lib.hid hcc
            have HNN := Lib.hid hnn
            have hgk1 := hj5.tab.low k hkd
            have hgk2 := hj5.lt3 k hkd
            have hrow5 := hj5.tab.rows k hkd
            have HM5 : Hid (w5.grownBy w5 (some (gb k)) ∧ Whole w5 (gb k) 36 (rowCs n ((stE false g days (k + 1)).f) (fun p => if p < 0 then (stE true g days (k + 1)).f p else 0))) := by
              refine ⟨grown_refl _ _, ?_⟩
              have e := rowCs_congr (n := n) (lo := (stE false g days (k + 1)).f) (hi := fun i => if k < k then (stE true g days (k + 1)).f i else 0) (lo' := (stE false g days (k + 1)).f) (hi' := fun p => if p < 0 then (stE true g days (k + 1)).f p else 0) (fun _ _ => rfl) (fun i _ => by simp)
              rw [e] at hrow5
              exact hrow5
            clear hw5e hj5 hj1 hj hg hw' r1 r2 r3 r4 r5 r6 hcc HB hnn hrow5 HJ1 hs4
            gi_wp2_with fail
            clear g0
            gi_loopw [13, 77] (fun _ i wr => ∃ q : Nat, q ≤ n ∧ i = .int .i64 q ∧ w5.grownBy wr (some (gb k)) ∧ Whole wr (gb k) 36 (rowCs n ((stE false g days (k + 1)).f) (fun p => if p < q then (stE true g days (k + 1)).f p else 0))) (fun _ i _ => n - (intOf i).toNat)
            case atStart => exact ⟨0, Nat.zero_le _, rfl, HM5.out.1, HM5.out.2⟩
            case round =>
              obtain ⟨q, hq, rfl, hgr, hrow⟩ := hrel
              clear HM5
              have ht6 := HJ5.out.tab.setHi (hi' := fun j i => if j = k then (if i < q then (stE true g days (k + 1)).f i else 0) else if j < k then (stE true g days (j + 1)).f i else 0) hkd hgr (by
                have e := rowCs_congr (n := n) (lo := (stE false g days (k + 1)).f) (hi := fun p => if p < q then (stE true g days (k + 1)).f p else 0) (lo' := (stE false g days (k + 1)).f) (hi' := fun i => if k = k then (if i < q then (stE true g days (k + 1)).f i else 0) else if k < k then (stE true g days (k + 1)).f i else 0) (fun _ _ => rfl) (fun i _ => by simp)
                rw [e] at hrow
                exact hrow) (fun j _ hne => by funext i; rw [if_neg hne])
              have hj6 := HJ5.out.turn hgr hgk1 hgk2 ht6
              have hcc := HCC.out
              by_cases hqn : q < n
              · have e1 := hj6.l1.at 0 rfl
                have e2 := hj6.tab.at1 hkd
                have e3 := (hj6.keep.whole hcc.var2 (by omega)).at 0 rfl
                have e4 := hj6.high.blk.at (11 + q) (wayCs_level _ _ _ _ (show q < 8 by omega))
                have cr := hrow.at (q * 2 + 1) (rowCs_hi _ _ hqn)
                have fr := hrow.free (q * 2 + 1)
                have hq8 : (q : Int) < 8 := by omega
                have hki : (k : Int) < (days.length : Int) := by omega
                have HR6 := Lib.hid (And.intro hgr hrow)
                clear hj6 hcc hrow hgr ht6
                gi_wp2_with fail
                refine round_words (by kernel_rfl) (by kernel_rfl) (fun _ _ h => h) (region_told 11 (by kernel_rfl) (by kernel_rfl) (fun W => Below wr.heap.size wr W) newer (pickD [vIs (.slice (some ⟨q1, 0, none⟩) days.length c1), vIs (.int .i64 k), vIs (.pointer (some ⟨q1, k, none⟩)), vIs (.slice (some ⟨gb k, 0, none⟩) n n), vIs (.int .i64 q), vIs (.pointer (some ⟨hb, 0, none⟩)), vIs (.int .i64 q), vIs (.pointer (some ⟨hb, 0, none⟩)), vIs (.pointer (some ⟨hb, 11, none⟩)), vIs (.pointer (some ⟨hb, 11 + q, none⟩)), vIs (vi ((stE true g days (k + 1)).f q))]) (fun h k => newer_trans h k) (pickD_stable _ ⟨vIs_st, vIs_st, vIs_st, vIs_st, vIs_st, vIs_st, vIs_st, vIs_st, vIs_st, vIs_st, vIs_st, trivial⟩) (Below.refl _ wr).drew (Below.refl _ _) ?_ ?_)
                · refine ⟨?_, ?_, ?_, ?_, ?_, ?_, ?_, ?_, ?_, ?_, ?_, trivial⟩
                  · intro a W hG hR hO hp
                    have h4 := hO.slot 4 (by kernel_rfl)
                    have c0 := keep_cell e1 hG
                    refine wp_yields (v := .slice (some ⟨q1, 0, none⟩) days.length c1) ?_ ⟨_, rfl, rfl, Below.refl _ _, hG⟩
                    simp [slotOf] at h4
                    simp [execOp, go_sem, h4, c0]
                  · intro a W hG hR hO hp
                    have h12 := hO.slot 12 (by kernel_rfl)
                    refine wp_yields (v := .int .i64 k) ?_ ⟨_, rfl, rfl, Below.refl _ _, hG⟩
                    simp [slotOf] at h12
                    simp [execOp, go_sem, h12]
                  · intro a W hG hR hO hp
                    have h80 : slotOf a 80 = .slice (some ⟨q1, 0, none⟩) days.length c1 := hp.1
                    have h81 : slotOf a 81 = .int .i64 k := hp.2.1
                    refine wp_yields (v := .pointer (some ⟨q1, k, none⟩)) ?_ ⟨_, rfl, rfl, Below.refl _ _, hG⟩
                    simp [slotOf] at h80 h81
                    simp [execOp, go_sem, h80, h81, hki]
                  · intro a W hG hR hO hp
                    have h82 : slotOf a 82 = .pointer (some ⟨q1, k, none⟩) := hp.1
                    have c0 := keep_cell e2 hG
                    refine wp_yields (v := .slice (some ⟨gb k, 0, none⟩) n n) ?_ ⟨_, rfl, rfl, Below.refl _ _, hG⟩
                    simp [slotOf] at h82
                    simp [execOp, go_sem, h82, c0]
                  · intro a W hG hR hO hp
                    have h13 := hO.slot 13 (by kernel_rfl)
                    refine wp_yields (v := .int .i64 q) ?_ ⟨_, rfl, rfl, Below.refl _ _, hG⟩
                    simp [slotOf] at h13
                    simp [execOp, go_sem, h13]
                  · intro a W hG hR hO hp
                    have h9 := hO.slot 9 (by kernel_rfl)
                    have c0 := keep_cell e3 hG
                    refine wp_yields (v := .pointer (some ⟨hb, 0, none⟩)) ?_ ⟨_, rfl, rfl, Below.refl _ _, hG⟩
                    simp [slotOf] at h9
                    simp [execOp, go_sem, h9, c0]
                  · intro a W hG hR hO hp
                    have h13 := hO.slot 13 (by kernel_rfl)
                    refine wp_yields (v := .int .i64 q) ?_ ⟨_, rfl, rfl, Below.refl _ _, hG⟩
                    simp [slotOf] at h13
                    simp [execOp, go_sem, h13]
                  · intro a W hG hR hO hp
                    have h85 : slotOf a 85 = .pointer (some ⟨hb, 0, none⟩) := hp.1
                    refine wp_yields (v := .pointer (some ⟨hb, 0, none⟩)) ?_ ⟨_, rfl, rfl, Below.refl _ _, hG⟩
                    simp [slotOf] at h85
                    simp [execOp, go_sem, h85]
                  · intro a W hG hR hO hp
                    have h87 : slotOf a 87 = .pointer (some ⟨hb, 0, none⟩) := hp.1
                    refine wp_yields (v := .pointer (some ⟨hb, 11, none⟩)) ?_ ⟨_, rfl, rfl, Below.refl _ _, hG⟩
                    simp [slotOf] at h87
                    simp [execOp, go_sem, h87]
                  · intro a W hG hR hO hp
                    have h88 : slotOf a 88 = .pointer (some ⟨hb, 11, none⟩) := hp.1
                    have h86 : slotOf a 86 = .int .i64 q := hp.2.1
                    refine wp_yields (v := .pointer (some ⟨hb, 11 + q, none⟩)) ?_ ⟨_, rfl, rfl, Below.refl _ _, hG⟩
                    simp [slotOf] at h88 h86
                    simp [execOp, go_sem, h88, h86, hq8]
                  · intro a W hG hR hO hp
                    have h89 : slotOf a 89 = .pointer (some ⟨hb, 11 + q, none⟩) := hp.1
                    have c0 := keep_cell e4 hG
                    refine wp_yields (v := vi ((stE true g days (k + 1)).f q)) ?_ ⟨_, rfl, rfl, Below.refl _ _, hG⟩
                    simp [slotOf] at h89
                    simp [execOp, go_sem, h89, c0]
                · intro W hG hR
                  rintro _ rfl _ rfl _ rfl _ rfl _ rfl _ rfl _ rfl _ rfl _ rfl _ rfl _ rfl
                  change wpList _ _ _ _ _ _
                  simp only [Act.put, List.setIfInBounds_toArray, List.set_cons_zero, List.set_cons_succ, List.drop_succ_cons, List.drop_zero]
                  obtain ⟨hgr, hrow⟩ := HR6.out
                  have cr' := keep_cell cr hG
                  have hrow8 := hrow.below hG hrow.lt
                  have fr' := hrow8.free (q * 2 + 1)
                  have HR : Hid (w5.grownBy (W.setCell ⟨gb k, q * 2 + 1, none⟩ (vi ((stE true g days (k + 1)).f q))) (some (gb k)) ∧ Whole (W.setCell ⟨gb k, q * 2 + 1, none⟩ (vi ((stE true g days (k + 1)).f q))) (gb k) 36 (rowCs n ((stE false g days (k + 1)).f) (fun p => if p < q + 1 then (stE true g days (k + 1)).f p else 0))) := by
                    refine ⟨grown_set (p := ⟨gb k, q * 2 + 1, none⟩) (grown_below hgr hG) (.inl rfl) _, ?_⟩
                    have := hrow8.set (q * 2 + 1) (vi ((stE true g days (k + 1)).f q))
                    rw [rowCs_set_hi _ _ (fun p => if p < q + 1 then (stE true g days (k + 1)).f p else 0) hqn _ (fun j _ => by
                      by_cases h1 : j = q
                      · subst h1; simp
                      · rw [if_neg h1]
                        by_cases h2 : j < q
                        · rw [if_pos h2, if_pos (by omega)]
                        · rw [if_neg h2, if_neg (by omega)])] at this
                    exact this
                  clear hrow8 hrow hgr hG hR HR6 e1 e2 e3 e4 cr fr
                  go_wp2_with fail
                  refine onlyN_intro ?_
                  gi_wp2_with fail
                  go_roundw
                  case rel => exact ⟨q + 1, by omega, by go_num, HR.out.1, HR.out.2⟩
                  case measure => simp [intOf]; omega
              · have hqe : q = n := by omega
                subst hqe
                have e1 := hj6.l2.at 0 rfl
                have e3 := (hj6.keep.whole hcc.var2 (by omega)).at 0 rfl
                have e4 := hj6.high.blk.at 19 (v := vi (stE true g days (k + 1)).snow) rfl
                obtain ⟨w7, hw7⟩ : ∃ w7, w7 = wr := ⟨_, rfl⟩
                rw [← hw7] at hj6 e1 e3 e4 ⊢
                have HJ7 := Lib.hid hj6
                have hki : (k : Int) < (days.length : Int) := by omega
                clear hj6 hcc hrow hgr ht6 hw7
                gi_wp2_with fail
                refine round_words (by kernel_rfl) (by kernel_rfl) (fun _ _ h => h) (region_told 6 (by kernel_rfl) (by kernel_rfl) (fun W => Below w7.heap.size w7 W) newer (pickD [vIs (.slice (some ⟨q2, 0, none⟩) days.length c2), vIs (.int .i64 k), vIs (.pointer (some ⟨hb, 0, none⟩)), vIs (.pointer (some ⟨hb, 0, none⟩)), vIs (.pointer (some ⟨hb, 19, none⟩)), vIs (vi (stE true g days (k + 1)).snow)]) (fun h k => newer_trans h k) (pickD_stable _ ⟨vIs_st, vIs_st, vIs_st, vIs_st, vIs_st, vIs_st, trivial⟩) (Below.refl _ w7).drew (Below.refl _ _) ?_ ?_)
                · refine ⟨?_, ?_, ?_, ?_, ?_, ?_, trivial⟩
                  · intro a W hG hR hO hp
                    have h5 := hO.slot 5 (by kernel_rfl)
                    have c0 := keep_cell e1 hG
                    refine wp_yields (v := .slice (some ⟨q2, 0, none⟩) days.length c2) ?_ ⟨_, rfl, rfl, Below.refl _ _, hG⟩
                    simp [slotOf] at h5
                    simp [execOp, go_sem, h5, c0]
                  · intro a W hG hR hO hp
                    have h12 := hO.slot 12 (by kernel_rfl)
                    refine wp_yields (v := .int .i64 k) ?_ ⟨_, rfl, rfl, Below.refl _ _, hG⟩
                    simp [slotOf] at h12
                    simp [execOp, go_sem, h12]
                  · intro a W hG hR hO hp
                    have h9 := hO.slot 9 (by kernel_rfl)
                    have c0 := keep_cell e3 hG
                    refine wp_yields (v := .pointer (some ⟨hb, 0, none⟩)) ?_ ⟨_, rfl, rfl, Below.refl _ _, hG⟩
                    simp [slotOf] at h9
                    simp [execOp, go_sem, h9, c0]
                  · intro a W hG hR hO hp
                    have h96 : slotOf a 96 = .pointer (some ⟨hb, 0, none⟩) := hp.1
                    refine wp_yields (v := .pointer (some ⟨hb, 0, none⟩)) ?_ ⟨_, rfl, rfl, Below.refl _ _, hG⟩
                    simp [slotOf] at h96
                    simp [execOp, go_sem, h96]
                  · intro a W hG hR hO hp
                    have h97 : slotOf a 97 = .pointer (some ⟨hb, 0, none⟩) := hp.1
                    refine wp_yields (v := .pointer (some ⟨hb, 19, none⟩)) ?_ ⟨_, rfl, rfl, Below.refl _ _, hG⟩
                    simp [slotOf] at h97
                    simp [execOp, go_sem, h97]
                  · intro a W hG hR hO hp
                    have h98 : slotOf a 98 = .pointer (some ⟨hb, 19, none⟩) := hp.1
                    have c0 := keep_cell e4 hG
                    refine wp_yields (v := vi (stE true g days (k + 1)).snow) ?_ ⟨_, rfl, rfl, Below.refl _ _, hG⟩
                    simp [slotOf] at h98
                    simp [execOp, go_sem, h98, c0]
                · intro W hG hR
                  rintro _ rfl _ rfl _ rfl _ rfl _ rfl _ rfl
                  change wpList _ _ _ _ _ _
                  simp only [Act.put, List.setIfInBounds_toArray, List.set_cons_zero, List.set_cons_succ, List.drop_succ_cons, List.drop_zero]
                  have hj8 := HJ7.out.newer hG
                  have hx := (hj8.tab.at2 hkd).2
                  have hy := hj8.tab.own2.frozenAt (k * 2 + 1)
                  have ht9 := hj8.tab.setSnow hkd ((stE true g days (k + 1)).snow) (sh' := (fun j => if j < k + 1 then (stE true g days (j + 1)).snow else 0)) (fun j _ => by
                    by_cases h1 : j = k
                    · subst h1; rw [if_pos (by omega), if_pos rfl]
                    · rw [if_neg h1]
                      by_cases h2 : j < k
                      · rw [if_pos h2, if_pos (by omega)]
                      · rw [if_neg h2, if_neg (by omega)])
                  have hj9 := hj8.turn (hj8.tab.own2.stored (k * 2 + 1) (vi (stE true g days (k + 1)).snow)).2 (own_ge hj8.tab.own2 q2 rfl) (hj8.lt2 q2 rfl) (ht9.congr (hi' := (fun j i => if j < k + 1 then (stE true g days (j + 1)).f i else 0)) (fun j i _ hi => by
                    by_cases h1 : j = k
                    · subst h1; rw [if_pos rfl, if_pos hi, if_pos (by omega)]
                    · rw [if_neg h1]
                      by_cases h2 : j < k
                      · rw [if_pos h2, if_pos (by omega)]
                      · rw [if_neg h2, if_neg (by omega)]))
                  have hj10 := hj9.put r'
                  rw [HNN.out] at hj10
                  have HX := Lib.hid (And.intro hj9.loop hj10)
                  clear hj10 hj9 ht9 hj8 hG hR e1 e3 e4 HJ7 HJ5 HCC
                  go_wp2_with fail
                  refine onlyN_intro ?_
                  gi_wp2_with fail
                  exact ⟨HX.out.1, rfl, HX.out.2⟩
          · rintro e W ⟨⟨v, rfl⟩, hj | hfalse⟩
            · refine ⟨⟨_, rfl⟩, .inl ⟨hj.loop, ?_⟩⟩
              have hj1 := hj.put (overOf r')
              obtain ⟨A1, c1, rfl⟩ := own_form hj1.tab.own1
              obtain ⟨A2, c2, rfl⟩ := own_form hj1.tab.own2
              obtain ⟨w7, hw7⟩ : ∃ w7, w7 = W.putObj (w4.heap.size + 1 + 1) (.loop (overOf r')) := ⟨_, rfl⟩
              rw [← hw7] at hj1 ⊢
              have e1 := hj1.l1.at 0 rfl
              have e2 := hj1.l2.at 0 rfl
              have f1 := hj1.l1.free 0
              have f2 := hj1.l2.free 0
              have hf7 := hj1.far
              have HJ7 := Lib.hid hj1
              have HCC := Lib.hid hcc
              clear hj1 hj r1 r2 r3 r4 r5 r6 hcc hw7
              gi_wp2_with fail
              refine outer_words (by kernel_rfl) (fun _ _ h => h) (region_told 4 (by kernel_rfl) (by kernel_rfl) (fun W => Below w7.heap.size w7 W) newer (pickD [vIs (.slice A1 days.length c1), vIs (.slice A2 days.length c2), fun _ _ => True, fun _ _ => True]) (fun h k => newer_trans h k) (pickD_stable _ ⟨vIs_st, vIs_st, fun _ _ _ h _ => h, fun _ _ _ h _ => h, trivial⟩) (Below.refl _ w7).drew (Below.refl _ _) ?_ ?_)
              · refine ⟨?_, ?_, ?_, ?_, trivial⟩
                · intro a W hG hR hO hp
                  have h4 := hO.slot 4 (by kernel_rfl)
                  have c0 := keep_cell e1 hG
                  refine wp_yields (v := .slice A1 days.length c1) ?_ ⟨_, rfl, rfl, Below.refl _ _, hG⟩
                  simp [slotOf] at h4
                  simp [execOp, go_sem, h4, c0]
                · intro a W hG hR hO hp
                  have h5 := hO.slot 5 (by kernel_rfl)
                  have c0 := keep_cell e2 hG
                  refine wp_yields (v := .slice A2 days.length c2) ?_ ⟨_, rfl, rfl, Below.refl _ _, hG⟩
                  simp [slotOf] at h5
                  simp [execOp, go_sem, h5, c0]
                · intro a W hG hR hO hp
                  have h4 := hO.slot 4 (by kernel_rfl)
                  have h102 : slotOf a 102 = .slice A1 days.length c1 := hp.1
                  have m0 := keep_cell e1 hG
                  have m1 := keep_frozen f1 e1 hG
                  refine wp_skips (W' := W) ?_ ⟨undef, rfl, trivial, Below.refl _ _, hG⟩
                  simp [slotOf] at h4 h102
                  simp [execOp, go_sem, h4, h102, m0, m1]
                  exact setCell_same m0
                · intro a W hG hR hO hp
                  have h5 := hO.slot 5 (by kernel_rfl)
                  have h103 : slotOf a 103 = .slice A2 days.length c2 := hp.1
                  have m0 := keep_cell e2 hG
                  have m1 := keep_frozen f2 e2 hG
                  refine wp_skips (W' := W) ?_ ⟨undef, rfl, trivial, Below.refl _ _, hG⟩
                  simp [slotOf] at h5 h103
                  simp [execOp, go_sem, h5, h103, m0, m1]
                  exact setCell_same m0
              · intro W hG hR
                rintro _ rfl _ rfl
                change wpList _ _ _ _ _ _
                simp only [Act.put, List.setIfInBounds_toArray, List.set_cons_zero, List.set_cons_succ, List.drop_succ_cons, List.drop_zero]
                have hj8 := HJ7.out.newer hG
                have hs8 := (Array.getElem?_eq_some_iff.1 hj8.loop).1
                have d2 := hj8.dfr
                have d1 := hj8.dfr1
                have p1 := grown_putL W (w4.heap.size + 1) (.deferred none)
                have p2 := grown_putL (W.putObj (w4.heap.size + 1) (.deferred none)) (w3.heap.size + 1) (.deferred none)
                have d1' : (W.putObj (w4.heap.size + 1) (.deferred none)).heap[w3.heap.size + 1]? = some (.deferred (some [])) := (World.putObj_heap_other (by omega)).trans d1
                have b1 : Whole ((W.putObj (w4.heap.size + 1) (.deferred none)).putObj (w3.heap.size + 1) (.deferred none)) (w.heap.size + 1) 30 #[.slice A1 days.length c1] := (hj8.l1.put (by omega) _).put (by omega) _
                have b2 : Whole ((W.putObj (w4.heap.size + 1) (.deferred none)).putObj (w3.heap.size + 1) (.deferred none)) (w.heap.size + 1 + 1) 31 #[.slice A2 days.length c2] := (hj8.l2.put (by omega) _).put (by omega) _
                have HX : Hid (levelsOut w g days (.returned (.tuple #[.slice A1 days.length c1, .slice A2 days.length c2, .int .i64 0])) ((W.putObj (w4.heap.size + 1) (.deferred none)).putObj (w3.heap.size + 1) (.deferred none))) := by
                  have t9 := (hj8.tab.free p1 (fun e => by have := hj8.lt1 _ e; omega) (fun e => by have := hj8.lt2 _ e; omega) (fun j hj' e => by have := hj8.lt3 j hj'; omega)).old p2 (by omega)
                  have hb9 : Below w.heap.size w ((W.putObj (w4.heap.size + 1) (.deferred none)).putObj (w3.heap.size + 1) (.deferred none)) := by
                    have a1 : Below w.heap.size w W := (HCC.out).a.below.trans (hj8.keep.below (HCC.out).a.below.size (fun i hi => by omega))
                    exact (a1.trans (below_of_grown p1 (by omega) (by omega))).trans (below_of_grown p2 (by omega) (by simp; omega))
                  have t10 := t9.congr (hi' := fun j i => (stE true g days (j + 1)).f i) (fun j i hj' _ => if_pos hj')
                  exact ⟨_, _, gb, _, rfl, by omega, t10.congrS (fun j hj' => if_pos hj'), hb9⟩
                have x1 := b1.at 0 rfl
                have x2 := b2.at 0 rfl
                clear p1 p2 hj8 hs8 hG hR HJ7 HCC b1 b2 e1 e2 d1 f1 f2
                go_wp2_with fail
                refine onlyN_intro ?_
                gi_wp2_with fail
                refine ⟨by simp, .inl ⟨_, _, rfl, run_takeDeferred d2, ⟨by simp, .inl ⟨_, _, rfl, run_takeDeferred d1', ?_⟩⟩⟩⟩
                refine ⟨_, ?_, HX.out⟩
                simp [results, Try.results18, go_sem, x1, x2]
            · exact hfalse.elim
        · exact hfalse.elim

end Go.Proofs.Yteonkhohloabfaa
