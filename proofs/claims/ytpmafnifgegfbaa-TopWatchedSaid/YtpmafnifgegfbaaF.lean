/- Does a tool agree with a movement. -/
import Derived.Test.YtpmafnifgegfbaaE
namespace Go.Proofs.Ytpmafnifgegfbaa
open Go.RowKit Go.Shelf Go.Deep

/-- Turns as the program has them: free, or a number. -/
def koN (o : Option Int) : Int := o.getD 1048576
set_option maxRecDepth 100000 in
set_option maxHeartbeats 2000000 in
theorem agrees_any (y : Sm) (j : Nat) (t : Tl) (m : Mv) (ko : Option Int) (w : World) (hok : SmOk y w) (hs : SdOk y.s) (ht : y.s.tools[j]? = some t) (h1 : -30 ≤ m.1 ∧ m.1 ≤ 30) (h2 : -30 ≤ m.2 ∧ m.2 ≤ 30) (hk : ∀ k, ko = some k → -100000 ≤ k ∧ k ≤ 100000) :
    Calls Try.prog 76 #[smV y, vi j, mvV m, vi (koN ko)] w fun e w' => e = .returned (.bool (agreeN t y.s.day (readAt y.s j) m ko)) ∧ newer w w' := by
  have hnw := newer_trans (newer_allocH w (.cells (smC y) 40)) (newer_allocH (w.alloc (.cells (smC y) 40)) (.cells (mvC m) 116))
  have hbx := (Whole.made w 40 (smC y)).alloc (.cells (mvC m) 116)
  have hmb := Whole.made (w.alloc (.cells (smC y) 40)) 116 (mvC m)
  simp only [World.size_alloc] at hmb
  have hjt : j < y.s.tools.length := (List.getElem?_eq_some_iff.1 ht).1
  have hjr : j < y.s.reads.length := by rw [hs.reads]; exact hjt
  have hnx := hok.next hnw
  obtain ⟨bt, ot, et, hbt, t0, t1, t2, t3, t4, t5, t6⟩ := row7 hnx.tl ht
  have htl := hs.tool t (List.mem_of_getElem? ht)
  have hday := hs.day
  obtain ⟨rd, hrd⟩ : ∃ r, y.s.reads[j]? = some r := ⟨_, List.getElem?_eq_getElem hjr⟩
  have erd : readAt y.s j = rd := by unfold readAt; rw [List.getD_eq_getElem?_getD, hrd]; rfl
  have hrb := hs.read rd (List.mem_of_getElem? hrd)
  rw [erd]
  have hsb := sight_bd htl h1 h2
  have hob := off_bd htl hday.1 hday.2
  have HOF := Lib.hid (fun W => off_any t y.s.day W (by have := htl.err; omega) (by have := htl.drift; omega) (by have := htl.since; omega) (by omega))
  have HSG := Lib.hid (fun W => sight_any t m W (by have := htl.a; omega) (by have := htl.b; omega) (by omega) (by omega))
  obtain ⟨off, hoff⟩ : ∃ o, o = offN t y.s.day := ⟨_, rfl⟩
  obtain ⟨sg, hsg⟩ : ∃ o, o = sightN t m := ⟨_, rfl⟩
  obtain ⟨R, hR⟩ : ∃ R, R = agreeN t y.s.day rd m ko := ⟨_, rfl⟩
  rw [← hR]
  unfold agreeN at hR
  rw [← hoff] at HOF hob hR
  rw [← hsg] at HSG hsb hR
  have HX := Lib.hid (And.intro hrd htl)
  have HR := Lib.hid hR
  clear hR
  have H1 := Lib.hid (And.intro (hnw) (And.intro (hbx) (And.intro (hmb) (hnx))))
  clear hnw hbx hmb hnx hs h1 h2 htl hok hoff hsg hrd erd ht
  have x0 := H1.out.2.1.at 0 (v := .slice y.sa y.s.spots.length y.sc) rfl
  have x1 := H1.out.2.1.at 1 (v := vi y.s.strain) rfl
  have x2 := H1.out.2.1.at 2 (v := .slice y.ta y.s.tools.length y.tc) rfl
  have x3 := H1.out.2.1.at 3 (v := vi y.s.day) rfl
  have x4 := H1.out.2.1.at 4 (v := .slice y.ra y.s.reads.length y.rc) rfl
  have m0 := H1.out.2.2.1.at 0 (v := vi m.1) rfl
  have m1 := H1.out.2.2.1.at 1 (v := vi m.2) rfl
  rw [et] at x2
  go_enter Try.func76, Try.ntmps76
  go_upto_region 2 with fail
  refine genQ (fun X => newer w X ∧ Whole X w.heap.size 40 (smC y) ∧ Whole X (w.heap.size + 1) 116 (mvC m) ∧ SmOk y X ∧ Whole X (w.heap.size + 1 + 1) 112 (tlC t)) ⟨(newer_trans H1.out.1 (newer_allocH ((w.alloc (.cells (smC y) 40)).alloc (.cells (mvC m) 116)) (.cells (tlC t) 112))), (H1.out.2.1.below (newer_allocH ((w.alloc (.cells (smC y) 40)).alloc (.cells (mvC m) 116)) (.cells (tlC t) 112)) H1.out.2.1.lt), (H1.out.2.2.1.below (newer_allocH ((w.alloc (.cells (smC y) 40)).alloc (.cells (mvC m) 116)) (.cells (tlC t) 112)) H1.out.2.2.1.lt), (H1.out.2.2.2.next (newer_allocH ((w.alloc (.cells (smC y) 40)).alloc (.cells (mvC m) 116)) (.cells (tlC t) 112))), (by have h := Whole.made ((w.alloc (.cells (smC y) 40)).alloc (.cells (mvC m) 116)) 112 (tlC t); simp only [World.size_alloc] at h; exact h)⟩ ?_
  obtain ⟨tb, htb⟩ : ∃ tb, tb = w.heap.size + 1 + 1 := ⟨_, rfl⟩
  rw [← htb]
  clear htb et hbt t0 t1 t2 t3 t4 t5 t6
  rintro w2 ⟨g0_, g1_, g2_, g3_, g4_⟩
  have H3 := Lib.hid (And.intro (g0_) (And.intro (g1_) (And.intro (g2_) (And.intro (g3_) (g4_)))))
  clear g0_ g1_ g2_ g3_ g4_ H1 x0 x1 x2 x3 x4 m0 m1
  have x0 := H3.out.2.1.at 0 (v := .slice y.sa y.s.spots.length y.sc) rfl
  have x1 := H3.out.2.1.at 1 (v := vi y.s.strain) rfl
  have x2 := H3.out.2.1.at 2 (v := .slice y.ta y.s.tools.length y.tc) rfl
  have x3 := H3.out.2.1.at 3 (v := vi y.s.day) rfl
  have x4 := H3.out.2.1.at 4 (v := .slice y.ra y.s.reads.length y.rc) rfl
  have z0 := H3.out.2.2.2.2.at 0 (v := vi t.spot) rfl
  have z1 := H3.out.2.2.2.2.at 1 (v := vi t.a) rfl
  have z2 := H3.out.2.2.2.2.at 2 (v := vi t.b) rfl
  have z3 := H3.out.2.2.2.2.at 3 (v := vi t.turn) rfl
  have z4 := H3.out.2.2.2.2.at 4 (v := vi t.err) rfl
  have z5 := H3.out.2.2.2.2.at 5 (v := vi t.drift) rfl
  have z6 := H3.out.2.2.2.2.at 6 (v := vi t.since) rfl
  go_wp2_with fail
  refine (HOF.out _).mono ?_
  rintro e w4 ⟨rfl, hb⟩
  have H5 := Lib.hid (And.intro ((newer_trans H3.out.1 hb)) (And.intro ((H3.out.2.1.below hb H3.out.2.1.lt)) (And.intro ((H3.out.2.2.1.below hb H3.out.2.2.1.lt)) (And.intro ((H3.out.2.2.2.1.next hb)) ((H3.out.2.2.2.2.below hb H3.out.2.2.2.2.lt))))))
  clear hb HOF H3 x0 x1 x2 x3 x4 z0 z1 z2 z3 z4 z5 z6
  have x0 := H5.out.2.1.at 0 (v := .slice y.sa y.s.spots.length y.sc) rfl
  have x1 := H5.out.2.1.at 1 (v := vi y.s.strain) rfl
  have x2 := H5.out.2.1.at 2 (v := .slice y.ta y.s.tools.length y.tc) rfl
  have x3 := H5.out.2.1.at 3 (v := vi y.s.day) rfl
  have x4 := H5.out.2.1.at 4 (v := .slice y.ra y.s.reads.length y.rc) rfl
  have z0 := H5.out.2.2.2.2.at 0 (v := vi t.spot) rfl
  have z1 := H5.out.2.2.2.2.at 1 (v := vi t.a) rfl
  have z2 := H5.out.2.2.2.2.at 2 (v := vi t.b) rfl
  have z3 := H5.out.2.2.2.2.at 3 (v := vi t.turn) rfl
  have z4 := H5.out.2.2.2.2.at 4 (v := vi t.err) rfl
  have z5 := H5.out.2.2.2.2.at 5 (v := vi t.drift) rfl
  have z6 := H5.out.2.2.2.2.at 6 (v := vi t.since) rfl
  have m0 := H5.out.2.2.1.at 0 (v := vi m.1) rfl
  have m1 := H5.out.2.2.1.at 1 (v := vi m.2) rfl
  obtain ⟨br, orr, er, hbr, r0⟩ := row1 H5.out.2.2.2.1.rd HX.out.1
  rw [er] at x4
  have hwr : IntKind.i64.wrap (sg - rd) = sg - rd := IntWalk.i64_in _ (by omega)
  go_upto_region 3 with fail
  refine wp_words (by kernel_rfl) (region_told 9 (by kernel_rfl) (by kernel_rfl) (fun W => Below w4.heap.size w4 W) newer (pickD [vIs (tlV t), vIs (mvV m), vIs (vi sg), vIs (.pointer (some ⟨w.heap.size, 4, none⟩)), vIs (.slice (some ⟨br, orr, none⟩) y.s.reads.length y.rc), vIs (.int .i64 j), vIs (.pointer (some ⟨br, orr + j, none⟩)), vIs (vi rd), vIs (vi (sg - rd))]) (fun h k => newer_trans h k) (pickD_stable _ ⟨vIs_st, vIs_st, vIs_st, vIs_st, vIs_st, vIs_st, vIs_st, vIs_st, vIs_st, trivial⟩) (Below.refl _ w4).drew (Below.refl _ _) ?_ ?_)
  · refine ⟨?_, ?_, ?_, ?_, ?_, ?_, ?_, ?_, ?_, trivial⟩
    · intro a W hG hR hO hp
      have h9 := hO.slot 9 (by kernel_rfl)
      have c0 := keep_cell z0 hG
      have c1 := keep_cell z1 hG
      have c2 := keep_cell z2 hG
      have c3 := keep_cell z3 hG
      have c4 := keep_cell z4 hG
      have c5 := keep_cell z5 hG
      have c6 := keep_cell z6 hG
      refine kY (v := tlV t) hG rfl ?_
      simp [slotOf] at h9
      simp [execOp, go_sem, h9, c0, c1, c2, c3, c4, c5, c6]
    · intro a W hG hR hO hp
      have h6 := hO.slot 6 (by kernel_rfl)
      have c0 := keep_cell m0 hG
      have c1 := keep_cell m1 hG
      refine kY (v := mvV m) hG rfl ?_
      simp [slotOf] at h6
      simp [execOp, go_sem, h6, c0, c1]
    · intro a W hG hR hO hp
      have h22 : slotOf a 22 = tlV t := hp.1
      have h23 : slotOf a 23 = mvV m := hp.2.1
      refine wp_enters (f := 108) (args := #[tlV t, mvV m]) ?_ ((HSG.out W).mono ?_)
      · simp [slotOf] at h22 h23
        simp [go_sem, h22, h23]
      · rintro e w' ⟨rfl, hb⟩
        exact ⟨_, rfl, _, rfl, rfl, hb, below_next hG hb⟩
    · intro a W hG hR hO hp
      have h4 := hO.slot 4 (by kernel_rfl)
      refine kY (v := .pointer (some ⟨w.heap.size, 4, none⟩)) hG rfl ?_
      simp [slotOf] at h4
      simp [execOp, go_sem, h4]
    · intro a W hG hR hO hp
      have h25 : slotOf a 25 = .pointer (some ⟨w.heap.size, 4, none⟩) := hp.1
      have c0 := keep_cell x4 hG
      refine kY (v := .slice (some ⟨br, orr, none⟩) y.s.reads.length y.rc) hG rfl ?_
      simp [slotOf] at h25
      simp [execOp, go_sem, h25, c0]
    · exact fun a W hG _ hO _ => kM 1 rfl (hO.slot 1 (by kernel_rfl)) rfl hG
    · intro a W hG hR hO hp
      have h26 : slotOf a 26 = .slice (some ⟨br, orr, none⟩) y.s.reads.length y.rc := hp.1
      have h27 : slotOf a 27 = .int .i64 j := hp.2.1
      refine kY (v := .pointer (some ⟨br, orr + j, none⟩)) hG rfl ?_
      simp [slotOf] at h26 h27
      simp [execOp, go_sem, h26, h27, hjr]
    · intro a W hG hR hO hp
      have h28 : slotOf a 28 = .pointer (some ⟨br, orr + j, none⟩) := hp.1
      have c0 := keep_cell r0 hG
      refine kY (v := vi rd) hG rfl ?_
      simp [slotOf] at h28
      simp [execOp, go_sem, h28, c0]
    · intro a W hG hR hO hp
      have h24 : slotOf a 24 = vi sg := hp.1
      have h29 : slotOf a 29 = vi rd := hp.2.1
      refine kY (v := vi (sg - rd)) hG rfl ?_
      simp [slotOf] at h24 h29
      simp [execOp, go_sem, h24, h29, hwr]
  · intro wz hG hR
    rintro _ rfl _ rfl _ rfl _ rfl _ rfl _ rfl _ rfl _ rfl _ rfl
    change wpList _ _ _ _ _ _
    simp only [Act.put, List.setIfInBounds_toArray, List.set_cons_zero, List.set_cons_succ, List.drop_succ_cons, List.drop_zero]
    clear hR
    have H6 := Lib.hid (And.intro ((newer_trans H5.out.1 hG)) (And.intro ((H5.out.2.1.below hG H5.out.2.1.lt)) (And.intro ((H5.out.2.2.1.below hG H5.out.2.2.1.lt)) (And.intro ((H5.out.2.2.2.1.next hG)) ((H5.out.2.2.2.2.below hG H5.out.2.2.2.2.lt))))))
    clear hG H5 x0 x1 x2 x3 x4 z0 z1 z2 z3 z4 z5 z6 m0 m1
    obtain ⟨lf, hlf⟩ : ∃ l, l = sg - rd := ⟨_, rfl⟩
    have hlb : -1500 ≤ lf ∧ lf ≤ 1500 := by omega
    rw [← hlf] at HR ⊢
    have HTB := Lib.hid HX.out.2.turn
    clear hlf hwr er hbr r0 hsb hrb hjt hjr HSG HX
    have z0 := H6.out.2.2.2.2.at 0 (v := vi t.spot) rfl
    have z1 := H6.out.2.2.2.2.at 1 (v := vi t.a) rfl
    have z2 := H6.out.2.2.2.2.at 2 (v := vi t.b) rfl
    have z3 := H6.out.2.2.2.2.at 3 (v := vi t.turn) rfl
    have z4 := H6.out.2.2.2.2.at 4 (v := vi t.err) rfl
    have z5 := H6.out.2.2.2.2.at 5 (v := vi t.drift) rfl
    have z6 := H6.out.2.2.2.2.at 6 (v := vi t.since) rfl
    by_cases hT : t.turn = 0
    · rw [hT] at z3
      go_wp2_with fail
      refine (amount_any lf _ (by omega)).mono ?_
      rintro e w' ⟨rfl, rfl⟩
      go_wp2_with fail
      go_ret
      exact ⟨ret_bool (by rw [HR.out, if_pos hT]), H6.out.1⟩
    · have hTb := HTB.out
      cases ko with
      | none =>
        have m1 : -200 ≤ lf.tmod t.turn ∧ lf.tmod t.turn ≤ 200 := by have a1 := Int.lt_tmod_of_pos lf (show 0 < t.turn by omega); have a2 := Int.tmod_lt_of_pos lf (show 0 < t.turn by omega); omega
        have m2 : -200 ≤ (lf.tmod t.turn + t.turn).tmod t.turn ∧ (lf.tmod t.turn + t.turn).tmod t.turn ≤ 200 := by have a1 := Int.lt_tmod_of_pos (lf.tmod t.turn + t.turn) (show 0 < t.turn by omega); have a2 := Int.tmod_lt_of_pos (lf.tmod t.turn + t.turn) (show 0 < t.turn by omega); omega
        have hw2 : IntKind.i64.wrap (lf.tmod t.turn + t.turn) = lf.tmod t.turn + t.turn := IntWalk.i64_in _ (by omega)
        go_upto_region 7 with fail
        refine wp_words (by kernel_rfl) (region_told 10 (by kernel_rfl) (by kernel_rfl) (fun W => Below wz.heap.size wz W) newer (pickD [vIs (vi lf), vIs (.pointer (some ⟨tb, 3, none⟩)), vIs (vi t.turn), vIs (vi (lf.tmod t.turn)), vIs (.pointer (some ⟨tb, 3, none⟩)), vIs (vi t.turn), vIs (vi (lf.tmod t.turn + t.turn)), vIs (.pointer (some ⟨tb, 3, none⟩)), vIs (vi t.turn), vIs (vi ((lf.tmod t.turn + t.turn).tmod t.turn))]) (fun h k => newer_trans h k) (pickD_stable _ ⟨vIs_st, vIs_st, vIs_st, vIs_st, vIs_st, vIs_st, vIs_st, vIs_st, vIs_st, vIs_st, trivial⟩) (Below.refl _ wz).drew (Below.refl _ _) ?_ ?_)
        · refine ⟨?_, ?_, ?_, ?_, ?_, ?_, ?_, ?_, ?_, ?_, trivial⟩
          · exact fun a W hG _ hO _ => kM 11 rfl (hO.slot 11 (by kernel_rfl)) rfl hG
          · intro a W hG hR hO hp
            have h9 := hO.slot 9 (by kernel_rfl)
            refine kY (v := .pointer (some ⟨tb, 3, none⟩)) hG rfl ?_
            simp [slotOf] at h9
            simp [execOp, go_sem, h9]
          · intro a W hG hR hO hp
            have h43 : slotOf a 43 = .pointer (some ⟨tb, 3, none⟩) := hp.1
            have c0 := keep_cell z3 hG
            refine kY (v := vi t.turn) hG rfl ?_
            simp [slotOf] at h43
            simp [execOp, go_sem, h43, c0]
          · intro a W hG hR hO hp
            have h42 : slotOf a 42 = vi lf := hp.1
            have h44 : slotOf a 44 = vi t.turn := hp.2.1
            refine kY (v := vi (lf.tmod t.turn)) hG rfl ?_
            simp [slotOf] at h42 h44
            simp [execOp, go_sem, h42, h44, hT]
          · intro a W hG hR hO hp
            have h9 := hO.slot 9 (by kernel_rfl)
            refine kY (v := .pointer (some ⟨tb, 3, none⟩)) hG rfl ?_
            simp [slotOf] at h9
            simp [execOp, go_sem, h9]
          · intro a W hG hR hO hp
            have h46 : slotOf a 46 = .pointer (some ⟨tb, 3, none⟩) := hp.1
            have c0 := keep_cell z3 hG
            refine kY (v := vi t.turn) hG rfl ?_
            simp [slotOf] at h46
            simp [execOp, go_sem, h46, c0]
          · intro a W hG hR hO hp
            have h45 : slotOf a 45 = vi (lf.tmod t.turn) := hp.1
            have h47 : slotOf a 47 = vi t.turn := hp.2.1
            refine kY (v := vi (lf.tmod t.turn + t.turn)) hG rfl ?_
            simp [slotOf] at h45 h47
            simp [execOp, go_sem, h45, h47, hw2]
          · intro a W hG hR hO hp
            have h9 := hO.slot 9 (by kernel_rfl)
            refine kY (v := .pointer (some ⟨tb, 3, none⟩)) hG rfl ?_
            simp [slotOf] at h9
            simp [execOp, go_sem, h9]
          · intro a W hG hR hO hp
            have h49 : slotOf a 49 = .pointer (some ⟨tb, 3, none⟩) := hp.1
            have c0 := keep_cell z3 hG
            refine kY (v := vi t.turn) hG rfl ?_
            simp [slotOf] at h49
            simp [execOp, go_sem, h49, c0]
          · intro a W hG hR hO hp
            have h48 : slotOf a 48 = vi (lf.tmod t.turn + t.turn) := hp.1
            have h50 : slotOf a 50 = vi t.turn := hp.2.1
            refine kY (v := vi ((lf.tmod t.turn + t.turn).tmod t.turn)) hG rfl ?_
            simp [slotOf] at h48 h50
            simp [execOp, go_sem, h48, h50, hT]
        · intro wy hG hR
          rintro _ rfl _ rfl _ rfl _ rfl _ rfl _ rfl _ rfl _ rfl _ rfl _ rfl
          change wpList _ _ _ _ _ _
          simp only [Act.put, List.setIfInBounds_toArray, List.set_cons_zero, List.set_cons_succ, List.drop_succ_cons, List.drop_zero]
          clear hR
          have H7 := Lib.hid (And.intro ((newer_trans H6.out.1 hG)) (And.intro ((H6.out.2.1.below hG H6.out.2.1.lt)) (And.intro ((H6.out.2.2.1.below hG H6.out.2.2.1.lt)) (And.intro ((H6.out.2.2.2.1.next hG)) ((H6.out.2.2.2.2.below hG H6.out.2.2.2.2.lt))))))
          clear hG H6 z0 z1 z2 z3 z4 z5 z6
          have z3 := H7.out.2.2.2.2.at 3 (v := vi t.turn) rfl
          obtain ⟨u, hu⟩ : ∃ u, u = leftN lf t.turn := ⟨_, rfl⟩
          have hu2 := hu
          unfold leftN at hu2
          rw [← hu2] at m2 ⊢
          have HU := Lib.hid hu
          clear hu hu2 m1 hw2
          by_cases hlt : t.turn - u < u
          · have hm : mnI u (t.turn - u) = t.turn - u := by unfold mnI; split <;> omega
            have HM := Lib.hid hm
            clear hm
            go_wp2_with fail
            go_ret
            exact ⟨ret_bool (by rw [HR.out, if_neg hT, ← HU.out, HM.out]), H7.out.1⟩
          · have hm : mnI u (t.turn - u) = u := by unfold mnI; split <;> omega
            have HM := Lib.hid hm
            clear hm
            go_wp2_with fail
            go_ret
            exact ⟨ret_bool (by rw [HR.out, if_neg hT, ← HU.out, HM.out]), H7.out.1⟩
      | some k =>
        have hkb := hk k rfl
        have hmu := mulb (a := t.turn) (x := k) (A := 200) (X := 100000) (by omega) (by omega)
        have hkf : koN (some k) = k := rfl
        rw [hkf]
        have hne : k ≠ 1048576 := by omega
        go_wp2_with fail
        refine (amount_any (lf - t.turn * k) _ (by omega)).mono ?_
        rintro e w' ⟨rfl, rfl⟩
        go_wp2_with fail
        go_ret
        exact ⟨ret_bool (by rw [HR.out, if_neg hT]), H6.out.1⟩

end Go.Proofs.Ytpmafnifgegfbaa
