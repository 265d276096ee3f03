/- Does a tool agree by a number of turns, by the reference. -/
import Derived.Test.YtpmafnifgegfbaaL
namespace Go.Proofs.Ytpmafnifgegfbaa
open Go.RowKit Go.Shelf Go.Deep

set_option maxRecDepth 100000 in
set_option maxHeartbeats 2000000 in
theorem refBy_any (y : Sm) (j : Nat) (t : Tl) (m : Mv) (k : Int) (w : World) (hok : SmOk y w) (hs : SdOk y.s) (ht : y.s.tools[j]? = some t) (h1 : -30 ≤ m.1 ∧ m.1 ≤ 30) (h2 : -30 ≤ m.2 ∧ m.2 ≤ 30) (hk : -100000 ≤ k ∧ k ≤ 100000) :
    Calls Try.prog 109 #[smV y, vi j, mvV m, vi k] w fun e w' => e = .returned (.bool (decide (amt (sightN t m - readAt y.s j - t.turn * k) ≤ offN t y.s.day))) ∧ newer w w' := by
  have hnw := newer_trans (newer_allocH w (.cells (smC y) 26)) (newer_allocH (w.alloc (.cells (smC y) 26)) (.cells (mvC m) 47))
  have hbx := (Whole.made w 26 (smC y)).alloc (.cells (mvC m) 47)
  have hmb := Whole.made (w.alloc (.cells (smC y) 26)) 47 (mvC m)
  simp only [World.size_alloc] at hmb
  have hjt : j < y.s.tools.length := (List.getElem?_eq_some_iff.1 ht).1
  have hjr : j < y.s.reads.length := by rw [hs.reads]; exact hjt
  have hnx := hok.next hnw
  obtain ⟨bt, ot, et, hbt, t0, t1, t2, t3, t4, t5, t6⟩ := row7 hnx.tl ht
  have htl := hs.tool t (List.mem_of_getElem? ht)
  have hday := hs.day
  obtain ⟨rd, hrd⟩ : ∃ r, y.s.reads[j]? = some r := ⟨_, List.getElem?_eq_getElem hjr⟩
  have erd : readAt y.s j = rd := by unfold readAt; rw [List.getD_eq_getElem?_getD, hrd]; rfl
  have hrb := hs.read rd (List.mem_of_getElem? hrd)
  rw [erd]
  have hsb := sight_bd htl h1 h2
  have hmu := mulb (a := t.turn) (x := k) (A := 200) (X := 100000) (by have := htl.turn; omega) (by omega)
  have HOF := Lib.hid (fun W => refOff_any t y.s.day W (by have := htl.err; omega) (by have := htl.drift; omega) (by have := htl.since; omega) (by omega))
  have HSG := Lib.hid (fun W => refSight_any t m W (by have := htl.a; omega) (by have := htl.b; omega) (by omega) (by omega))
  obtain ⟨off, hoff⟩ : ∃ o, o = offN t y.s.day := ⟨_, rfl⟩
  obtain ⟨sg, hsg⟩ : ∃ o, o = sightN t m := ⟨_, rfl⟩
  rw [← hoff] at HOF ⊢
  rw [← hsg] at HSG hsb ⊢
  have HX := Lib.hid hrd
  have HAM := Lib.hid (fun W => abs_any (sg - rd - t.turn * k) W (by omega))
  obtain ⟨am, ham⟩ : ∃ a, a = amt (sg - rd - t.turn * k) := ⟨_, rfl⟩
  rw [← ham] at HAM ⊢
  have hwr : IntKind.i64.wrap (sg - rd) = sg - rd := IntWalk.i64_in _ (by omega)
  have hwm : IntKind.i64.wrap (t.turn * k) = t.turn * k := IntWalk.i64_in _ (by omega)
  have hws : IntKind.i64.wrap (sg - rd - t.turn * k) = sg - rd - t.turn * k := IntWalk.i64_in _ (by omega)
  have H1 := Lib.hid (And.intro (hnw) (And.intro (hbx) (And.intro (hmb) (hnx))))
  clear hnw hbx hmb hnx hs h1 h2 htl hok hoff hsg ham hrd erd ht
  have x0 := H1.out.2.1.at 0 (v := .slice y.sa y.s.spots.length y.sc) rfl
  have x1 := H1.out.2.1.at 1 (v := vi y.s.strain) rfl
  have x2 := H1.out.2.1.at 2 (v := .slice y.ta y.s.tools.length y.tc) rfl
  have x3 := H1.out.2.1.at 3 (v := vi y.s.day) rfl
  have x4 := H1.out.2.1.at 4 (v := .slice y.ra y.s.reads.length y.rc) rfl
  have m0 := H1.out.2.2.1.at 0 (v := vi m.1) rfl
  have m1 := H1.out.2.2.1.at 1 (v := vi m.2) rfl
  rw [et] at x2
  go_enter Try.func109, Try.ntmps109
  go_upto_region 2 with fail
  refine genQ (fun X => newer w X ∧ Whole X w.heap.size 26 (smC y) ∧ Whole X (w.heap.size + 1) 47 (mvC m) ∧ SmOk y X ∧ Whole X (w.heap.size + 1 + 1) 43 (tlC t)) ⟨(newer_trans H1.out.1 (newer_allocH ((w.alloc (.cells (smC y) 26)).alloc (.cells (mvC m) 47)) (.cells (tlC t) 43))), (H1.out.2.1.below (newer_allocH ((w.alloc (.cells (smC y) 26)).alloc (.cells (mvC m) 47)) (.cells (tlC t) 43)) H1.out.2.1.lt), (H1.out.2.2.1.below (newer_allocH ((w.alloc (.cells (smC y) 26)).alloc (.cells (mvC m) 47)) (.cells (tlC t) 43)) H1.out.2.2.1.lt), (H1.out.2.2.2.next (newer_allocH ((w.alloc (.cells (smC y) 26)).alloc (.cells (mvC m) 47)) (.cells (tlC t) 43))), (by have h := Whole.made ((w.alloc (.cells (smC y) 26)).alloc (.cells (mvC m) 47)) 43 (tlC t); simp only [World.size_alloc] at h; exact h)⟩ ?_
  obtain ⟨tb, htb⟩ : ∃ tb, tb = w.heap.size + 1 + 1 := ⟨_, rfl⟩
  rw [← htb]
  clear htb et hbt t0 t1 t2 t3 t4 t5 t6
  rintro w2 ⟨g0_, g1_, g2_, g3_, g4_⟩
  have H3 := Lib.hid (And.intro (g0_) (And.intro (g1_) (And.intro (g2_) (And.intro (g3_) (g4_)))))
  clear g0_ g1_ g2_ g3_ g4_ H1 x0 x1 x2 x3 x4 m0 m1
  have x0 := H3.out.2.1.at 0 (v := .slice y.sa y.s.spots.length y.sc) rfl
  have x1 := H3.out.2.1.at 1 (v := vi y.s.strain) rfl
  have x2 := H3.out.2.1.at 2 (v := .slice y.ta y.s.tools.length y.tc) rfl
  have x3 := H3.out.2.1.at 3 (v := vi y.s.day) rfl
  have x4 := H3.out.2.1.at 4 (v := .slice y.ra y.s.reads.length y.rc) rfl
  have z0 := H3.out.2.2.2.2.at 0 (v := vi t.spot) rfl
  have z1 := H3.out.2.2.2.2.at 1 (v := vi t.a) rfl
  have z2 := H3.out.2.2.2.2.at 2 (v := vi t.b) rfl
  have z3 := H3.out.2.2.2.2.at 3 (v := vi t.turn) rfl
  have z4 := H3.out.2.2.2.2.at 4 (v := vi t.err) rfl
  have z5 := H3.out.2.2.2.2.at 5 (v := vi t.drift) rfl
  have z6 := H3.out.2.2.2.2.at 6 (v := vi t.since) rfl
  have m0 := H3.out.2.2.1.at 0 (v := vi m.1) rfl
  have m1 := H3.out.2.2.1.at 1 (v := vi m.2) rfl
  obtain ⟨br, orr, er, hbr, r0⟩ := row1 H3.out.2.2.2.1.rd HX.out
  rw [er] at x4
  refine wp_words (by kernel_rfl) (region_told 20 (by kernel_rfl) (by kernel_rfl) (fun W => Below w2.heap.size w2 W) newer (pickD [vIs (tlV t), vIs (mvV m), vIs (vi sg), vIs (.pointer (some ⟨w.heap.size, 4, none⟩)), vIs (.slice (some ⟨br, orr, none⟩) y.s.reads.length y.rc), vIs (.int .i64 j), vIs (.pointer (some ⟨br, orr + j, none⟩)), vIs (vi rd), vIs (vi (sg - rd)), vIs (.pointer (some ⟨tb, 3, none⟩)), vIs (vi t.turn), vIs (vi k), vIs (vi (t.turn * k)), vIs (vi (sg - rd - t.turn * k)), vIs (vi am), vIs (tlV t), vIs (.pointer (some ⟨w.heap.size, 3, none⟩)), vIs (vi y.s.day), vIs (vi off), vIs (.bool (decide (am ≤ off)))]) (fun h k => newer_trans h k) (pickD_stable _ ⟨vIs_st, vIs_st, vIs_st, vIs_st, vIs_st, vIs_st, vIs_st, vIs_st, vIs_st, vIs_st, vIs_st, vIs_st, vIs_st, vIs_st, vIs_st, vIs_st, vIs_st, vIs_st, vIs_st, vIs_st, trivial⟩) (Below.refl _ w2).drew (Below.refl _ _) ?_ ?_)
  · refine ⟨?_, ?_, ?_, ?_, ?_, ?_, ?_, ?_, ?_, ?_, ?_, ?_, ?_, ?_, ?_, ?_, ?_, ?_, ?_, ?_, trivial⟩
    · intro a W hG hR hO hp
      have h9 := hO.slot 9 (by kernel_rfl)
      have c0 := keep_cell z0 hG
      have c1 := keep_cell z1 hG
      have c2 := keep_cell z2 hG
      have c3 := keep_cell z3 hG
      have c4 := keep_cell z4 hG
      have c5 := keep_cell z5 hG
      have c6 := keep_cell z6 hG
      refine kY (v := tlV t) hG rfl ?_
      simp [slotOf] at h9
      simp [execOp, go_sem, h9, c0, c1, c2, c3, c4, c5, c6]
    · intro a W hG hR hO hp
      have h6 := hO.slot 6 (by kernel_rfl)
      have c0 := keep_cell m0 hG
      have c1 := keep_cell m1 hG
      refine kY (v := mvV m) hG rfl ?_
      simp [slotOf] at h6
      simp [execOp, go_sem, h6, c0, c1]
    · intro a W hG hR hO hp
      have h15 : slotOf a 15 = tlV t := hp.1
      have h16 : slotOf a 16 = mvV m := hp.2.1
      refine wp_enters (f := 23) (args := #[tlV t, mvV m]) ?_ ((HSG.out W).mono ?_)
      · simp [slotOf] at h15 h16
        simp [go_sem, h15, h16]
      · rintro e w' ⟨rfl, hb⟩
        exact ⟨_, rfl, _, rfl, rfl, hb, below_next hG hb⟩
    · intro a W hG hR hO hp
      have h4 := hO.slot 4 (by kernel_rfl)
      refine kY (v := .pointer (some ⟨w.heap.size, 4, none⟩)) hG rfl ?_
      simp [slotOf] at h4
      simp [execOp, go_sem, h4]
    · intro a W hG hR hO hp
      have h18 : slotOf a 18 = .pointer (some ⟨w.heap.size, 4, none⟩) := hp.1
      have c0 := keep_cell x4 hG
      refine kY (v := .slice (some ⟨br, orr, none⟩) y.s.reads.length y.rc) hG rfl ?_
      simp [slotOf] at h18
      simp [execOp, go_sem, h18, c0]
    · exact fun a W hG _ hO _ => kM 1 rfl (hO.slot 1 (by kernel_rfl)) rfl hG
    · intro a W hG hR hO hp
      have h19 : slotOf a 19 = .slice (some ⟨br, orr, none⟩) y.s.reads.length y.rc := hp.1
      have h20 : slotOf a 20 = .int .i64 j := hp.2.1
      refine kY (v := .pointer (some ⟨br, orr + j, none⟩)) hG rfl ?_
      simp [slotOf] at h19 h20
      simp [execOp, go_sem, h19, h20, hjr]
    · intro a W hG hR hO hp
      have h21 : slotOf a 21 = .pointer (some ⟨br, orr + j, none⟩) := hp.1
      have c0 := keep_cell r0 hG
      refine kY (v := vi rd) hG rfl ?_
      simp [slotOf] at h21
      simp [execOp, go_sem, h21, c0]
    · intro a W hG hR hO hp
      have h17 : slotOf a 17 = vi sg := hp.1
      have h22 : slotOf a 22 = vi rd := hp.2.1
      refine kY (v := vi (sg - rd)) hG rfl ?_
      simp [slotOf] at h17 h22
      simp [execOp, go_sem, h17, h22, hwr]
    · intro a W hG hR hO hp
      have h9 := hO.slot 9 (by kernel_rfl)
      refine kY (v := .pointer (some ⟨tb, 3, none⟩)) hG rfl ?_
      simp [slotOf] at h9
      simp [execOp, go_sem, h9]
    · intro a W hG hR hO hp
      have h24 : slotOf a 24 = .pointer (some ⟨tb, 3, none⟩) := hp.1
      have c0 := keep_cell z3 hG
      refine kY (v := vi t.turn) hG rfl ?_
      simp [slotOf] at h24
      simp [execOp, go_sem, h24, c0]
    · exact fun a W hG _ hO _ => kM 3 rfl (hO.slot 3 (by kernel_rfl)) rfl hG
    · intro a W hG hR hO hp
      have h25 : slotOf a 25 = vi t.turn := hp.1
      have h26 : slotOf a 26 = vi k := hp.2.1
      refine kY (v := vi (t.turn * k)) hG rfl ?_
      simp [slotOf] at h25 h26
      simp [execOp, go_sem, h25, h26, hwm]
    · intro a W hG hR hO hp
      have h23 : slotOf a 23 = vi (sg - rd) := hp.1
      have h27 : slotOf a 27 = vi (t.turn * k) := hp.2.1
      refine kY (v := vi (sg - rd - t.turn * k)) hG rfl ?_
      simp [slotOf] at h23 h27
      simp [execOp, go_sem, h23, h27, hws]
    · intro a W hG hR hO hp
      have h28 : slotOf a 28 = vi (sg - rd - t.turn * k) := hp.1
      refine wp_enters (f := 106) (args := #[vi (sg - rd - t.turn * k)]) ?_ ((HAM.out W).mono ?_)
      · simp [slotOf] at h28
        simp [go_sem, h28]
      · rintro e w' ⟨rfl, rfl⟩
        exact ⟨_, rfl, _, rfl, rfl, Below.refl _ _, hG⟩
    · intro a W hG hR hO hp
      have h9 := hO.slot 9 (by kernel_rfl)
      have c0 := keep_cell z0 hG
      have c1 := keep_cell z1 hG
      have c2 := keep_cell z2 hG
      have c3 := keep_cell z3 hG
      have c4 := keep_cell z4 hG
      have c5 := keep_cell z5 hG
      have c6 := keep_cell z6 hG
      refine kY (v := tlV t) hG rfl ?_
      simp [slotOf] at h9
      simp [execOp, go_sem, h9, c0, c1, c2, c3, c4, c5, c6]
    · intro a W hG hR hO hp
      have h4 := hO.slot 4 (by kernel_rfl)
      refine kY (v := .pointer (some ⟨w.heap.size, 3, none⟩)) hG rfl ?_
      simp [slotOf] at h4
      simp [execOp, go_sem, h4]
    · intro a W hG hR hO hp
      have h31 : slotOf a 31 = .pointer (some ⟨w.heap.size, 3, none⟩) := hp.1
      have c0 := keep_cell x3 hG
      refine kY (v := vi y.s.day) hG rfl ?_
      simp [slotOf] at h31
      simp [execOp, go_sem, h31, c0]
    · intro a W hG hR hO hp
      have h30 : slotOf a 30 = tlV t := hp.1
      have h32 : slotOf a 32 = vi y.s.day := hp.2.1
      refine wp_enters (f := 22) (args := #[tlV t, vi y.s.day]) ?_ ((HOF.out W).mono ?_)
      · simp [slotOf] at h30 h32
        simp [go_sem, h30, h32]
      · rintro e w' ⟨rfl, hb⟩
        exact ⟨_, rfl, _, rfl, rfl, hb, below_next hG hb⟩
    · intro a W hG hR hO hp
      have h29 : slotOf a 29 = vi am := hp.1
      have h33 : slotOf a 33 = vi off := hp.2.1
      refine kY (v := .bool (decide (am ≤ off))) hG rfl ?_
      simp [slotOf] at h29 h33
      simp [execOp, go_sem, h29, h33]
  · intro wz hG hR
    rintro _ rfl _ rfl _ rfl _ rfl _ rfl _ rfl _ rfl _ rfl _ rfl _ rfl _ rfl _ rfl _ rfl _ rfl _ rfl _ rfl _ rfl _ rfl _ rfl _ rfl
    change wpList _ _ _ _ _ _
    simp only [Act.put, List.setIfInBounds_toArray, List.set_cons_zero, List.set_cons_succ, List.drop_succ_cons, List.drop_zero]
    clear hR
    have H4 := Lib.hid (And.intro ((newer_trans H3.out.1 hG)) (And.intro ((H3.out.2.1.below hG H3.out.2.1.lt)) (And.intro ((H3.out.2.2.1.below hG H3.out.2.2.1.lt)) (And.intro ((H3.out.2.2.2.1.next hG)) ((H3.out.2.2.2.2.below hG H3.out.2.2.2.2.lt))))))
    clear hG H3 x0 x1 x2 x3 x4 z0 z1 z2 z3 z4 z5 z6 m0 m1
    go_wp2_with fail
    go_ret
    exact ⟨rfl, H4.out.1⟩

end Go.Proofs.Ytpmafnifgegfbaa
