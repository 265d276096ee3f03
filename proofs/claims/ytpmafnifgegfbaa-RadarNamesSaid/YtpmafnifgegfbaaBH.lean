/- A survey without a tool; the tools that may be to blame. -/
import Derived.Test.YtpmafnifgegfbaaBG
import Derived.Test.YtpmafnifgegfbaaAB
namespace Go.Proofs.Ytpmafnifgegfbaa
open Go.RowKit Go.Shelf Go.Deep

theorem drop_ok {y : Sm} {i n : Nat} {W : World} {base : Nat} {TA RA : Option Addr} {tc rc : Nat} (hs : Row spL 4 W W.heap.size y.sa y.s.spots) (hn : y.s.tools.length = n) (hrn : y.s.reads.length = n) (hi : i < n) (ht : W.ownsRow base 112 7 (.slice TA (n - 1) tc) (n - 1) ((y.s.tools.eraseIdx i).flatMap tlL)) (hr : W.ownsRow base 3 1 (.slice RA (n - 1) rc) (n - 1) ((y.s.reads.eraseIdx i).flatMap intL)) : SmOk ⟨dropS y.s i, y.sa, y.sc, TA, tc, RA, rc⟩ W := by
  refine ⟨hs, ?_, ?_⟩
  · rw [show n - 1 = (y.s.tools.eraseIdx i).length by rw [List.length_eraseIdx_of_lt (by omega), hn]] at ht
    exact row_of_own (enc := tlL) (size := 7) (by decide) (fun _ => rfl) ht
  · rw [show n - 1 = (y.s.reads.eraseIdx i).length by rw [List.length_eraseIdx_of_lt (by omega), hrn]] at hr
    exact row_of_own (enc := intL) (size := 1) (by decide) (fun _ => rfl) hr
set_option maxRecDepth 100000 in
set_option maxHeartbeats 4000000 in
theorem without_any (y : Sm) (i n : Nat) (w : World) (hok : SmOk y w) (hn8 : n ≤ 8) (hn : y.s.tools.length = n) (hrn : y.s.reads.length = n) (hi : i < n) : Calls Try.prog 80 #[smV y, .int .i64 i] w fun e w' => ∃ A c B d, e = .returned (.agg #[.slice y.sa y.s.spots.length y.sc, vi y.s.strain, .slice A (n - 1) c, vi y.s.day, .slice B (n - 1) d]) ∧ SmOk ⟨dropS y.s i, y.sa, y.sc, A, c, B, d⟩ w' ∧ newer w w' := by
  have hb1 := newer_trans (newer_allocH w (.cells (smC y) 40)) (newer_allocH (w.alloc (.cells (smC y) 40)) (.cells #[.slice none 0 0, vi 0, .slice none 0 0, vi 0, .slice none 0 0] 40))
  have m0 := (Whole.made w 40 (smC y)).alloc (.cells #[.slice none 0 0, vi 0, .slice none 0 0, vi 0, .slice none 0 0] 40)
  have m1 := Whole.made (w.alloc (.cells (smC y) 40)) 40 #[.slice none 0 0, vi 0, .slice none 0 0, vi 0, .slice none 0 0]
  simp only [World.size_alloc] at m1
  have H0 := Lib.hid (And.intro hb1 (And.intro m0 m1))
  have HOK := Lib.hid hok
  have HN := Lib.hid (And.intro hn hrn)
  obtain ⟨j, hj⟩ : ∃ j, j = i + 1 := ⟨_, rfl⟩
  have ej : (i : Int) + 1 = (j : Int) := by omega
  have ewj : IntKind.i64.wrap ((i : Int) + 1) = (j : Int) := by rw [ej]; exact IntWalk.i64_in _ (by omega)
  have HJ := Lib.hid hj
  clear hok hb1 m0 m1 hn hrn hj
  go_enter Try.func80, Try.ntmps80
  go_upto_region 1 with fail
  refine genQ (fun X => newer w X ∧ Whole X w.heap.size 40 (smC y) ∧ Whole X (w.heap.size + 1) 40 #[.slice none 0 0, vi 0, .slice none 0 0, vi 0, .slice none 0 0]) H0.out ?_
  clear H0
  rintro w1 ⟨hn1, hx1, hr1⟩
  have H1 := Lib.hid (And.intro hn1 (And.intro hx1 hr1))
  have x2 := hx1.at 2 (v := .slice y.ta y.s.tools.length y.tc) rfl
  clear hn1 hx1 hr1
  go_wp2_with fail
  refine (cloneT_any (enc := tlL) (fun _ => rfl) y.s.tools y.ta y.tc w1 (by have := HN.out.1; omega) (HOK.out.next H1.out.1).tl).mono ?_
  rintro e w2 ⟨TB, tc2, rfl, ho, hn⟩
  rw [HN.out.1] at ho ⊢
  obtain ⟨gt, rfl, hgt⟩ := own_some ho (by omega)
  have HT2 := Lib.hid ho
  have H2 := Lib.hid hn
  clear ho hn x2
  go_wp2_with fail
  refine (deleteT_any y.s.tools gt tc2 i j n _ w2 HJ.out hi HN.out.1 HT2.out).mono ?_
  rintro e w3 ⟨rfl, ho, hg⟩
  have hn3 := Below.trans H2.out (below_of_grown hg hgt H2.out.size)
  have ngt : w.heap.size ≠ gt := fun e => by have h1 := H1.out.2.1.lt; omega
  have ngr : w.heap.size + 1 ≠ gt := fun e => by have h1 := H1.out.2.2.lt; omega
  have hx3 := H1.out.2.1.below hn3 H1.out.2.1.lt
  have z2 := hx3.at 2 (v := .slice y.ta y.s.tools.length y.tc) rfl
  have f2 := hx3.free 2
  have H3 := Lib.hid (And.intro hn3 (And.intro hx3 (And.intro (H1.out.2.2.below hn3 H1.out.2.2.lt) (own_more ho (show w.heap.size ≤ w1.heap.size from H1.out.1.size)))))
  clear ho hg hn3 hx3 hgt HT2 H2 ngt ngr
  go_upto_region 2 with fail
  refine genQ (fun X => newer w X ∧ Whole X w.heap.size 40 #[.slice y.sa y.s.spots.length y.sc, vi y.s.strain, .slice (some ⟨gt, 0, none⟩) (n - 1) tc2, vi y.s.day, .slice y.ra y.s.reads.length y.rc] ∧ Whole X (w.heap.size + 1) 40 #[.slice none 0 0, vi 0, .slice none 0 0, vi 0, .slice none 0 0] ∧ X.ownsRow w.heap.size 112 7 (.slice (some ⟨gt, 0, none⟩) (n - 1) tc2) (n - 1) ((y.s.tools.eraseIdx i).flatMap tlL)) ⟨(newer_trans H1.out.1 H3.out.1).setCell (p := ⟨w.heap.size, 2, none⟩) (Nat.le_refl _) _, H3.out.2.1.set 2 _, H3.out.2.2.1.far (p := ⟨w.heap.size, 2, none⟩) (by dsimp only; omega) _, own_set H3.out.2.2.2 (own_ne H3.out.2.2.2 H3.out.2.1 (by decide)) _⟩ ?_
  clear z2 f2 H3 H1
  rintro w4 ⟨hn4, hx4, hr4, ht4⟩
  have H4 := Lib.hid (And.intro hn4 (And.intro hx4 (And.intro hr4 ht4)))
  have x4 := hx4.at 4 (v := .slice y.ra y.s.reads.length y.rc) rfl
  clear hn4 hx4 hr4 ht4
  go_wp2_with fail
  refine (clone3_any (enc := intL) (fun _ => rfl) y.s.reads y.ra y.rc w4 (by have := HN.out.2; omega) (HOK.out.next H4.out.1).rd).mono ?_
  rintro e w5 ⟨RB, rc2, rfl, ho, hn⟩
  rw [HN.out.2] at ho ⊢
  obtain ⟨gr, rfl, hgr⟩ := own_some ho (by omega)
  have HR5 := Lib.hid ho
  have H5 := Lib.hid hn
  clear ho hn x4
  go_wp2_with fail
  refine (deleteI_any y.s.reads gr rc2 i j n _ w5 HJ.out hi HN.out.2 HR5.out).mono ?_
  rintro e w6 ⟨rfl, ho, hg⟩
  have hn6 := Below.trans H5.out (below_of_grown hg hgr H5.out.size)
  have hx6 := H4.out.2.1.below hn6 H4.out.2.1.lt
  have z4 := hx6.at 4 (v := .slice y.ra y.s.reads.length y.rc) rfl
  have f4 := hx6.free 4
  have H6 := Lib.hid (And.intro hn6 (And.intro hx6 (And.intro (H4.out.2.2.1.below hn6 H4.out.2.2.1.lt) (And.intro (own_below H4.out.2.2.2 hn6) (own_more ho H4.out.1.size)))))
  clear ho hg hn6 hx6 hgr HR5 H5
  go_upto_region 3 with fail
  refine genQ (fun X => newer w X ∧ Whole X w.heap.size 40 #[.slice y.sa y.s.spots.length y.sc, vi y.s.strain, .slice (some ⟨gt, 0, none⟩) (n - 1) tc2, vi y.s.day, .slice (some ⟨gr, 0, none⟩) (n - 1) rc2] ∧ Whole X (w.heap.size + 1) 40 #[.slice none 0 0, vi 0, .slice none 0 0, vi 0, .slice none 0 0] ∧ X.ownsRow w.heap.size 112 7 (.slice (some ⟨gt, 0, none⟩) (n - 1) tc2) (n - 1) ((y.s.tools.eraseIdx i).flatMap tlL) ∧ X.ownsRow w.heap.size 3 1 (.slice (some ⟨gr, 0, none⟩) (n - 1) rc2) (n - 1) ((y.s.reads.eraseIdx i).flatMap intL)) ⟨(newer_trans H4.out.1 H6.out.1).setCell (p := ⟨w.heap.size, 4, none⟩) (Nat.le_refl _) _, H6.out.2.1.set 4 _, H6.out.2.2.1.far (p := ⟨w.heap.size, 4, none⟩) (by dsimp only; omega) _, own_set H6.out.2.2.2.1 (own_ne H6.out.2.2.2.1 H6.out.2.1 (by decide)) _, own_set H6.out.2.2.2.2 (own_ne H6.out.2.2.2.2 H6.out.2.1 (by decide)) _⟩ ?_
  clear z4 f4 H6 H4
  rintro w9 ⟨hn9, ho9, hr9, ht9, hi9⟩
  have H9 := Lib.hid (And.intro hn9 (And.intro hr9 (And.intro ht9 hi9)))
  have z0 := ho9.at 0 (v := .slice y.sa y.s.spots.length y.sc) rfl
  have z1 := ho9.at 1 (v := vi y.s.strain) rfl
  have z2 := ho9.at 2 (v := .slice (some ⟨gt, 0, none⟩) (n - 1) tc2) rfl
  have z3 := ho9.at 3 (v := vi y.s.day) rfl
  have z4 := ho9.at 4 (v := .slice (some ⟨gr, 0, none⟩) (n - 1) rc2) rfl
  have b0 := hr9.at 0 rfl
  have f0 := hr9.free 0
  have b1 := hr9.at 1 rfl
  have f1 := hr9.free 1
  have b2 := hr9.at 2 rfl
  have f2 := hr9.free 2
  have b3 := hr9.at 3 rfl
  have f3 := hr9.free 3
  have b4 := hr9.at 4 rfl
  have f4 := hr9.free 4
  clear hn9 ho9 hr9 ht9 hi9
  go_wp2_with fail
  have hw := (((((H9.out.2.1).set 0 (.slice y.sa y.s.spots.length y.sc)).set 1 (vi y.s.strain)).set 2 (.slice (some ⟨gt, 0, none⟩) (n - 1) tc2)).set 3 (vi y.s.day)).set 4 (.slice (some ⟨gr, 0, none⟩) (n - 1) rc2)
  have k0 := hw.at 0 (v := .slice y.sa y.s.spots.length y.sc) rfl
  have k1 := hw.at 1 (v := vi y.s.strain) rfl
  have k2 := hw.at 2 (v := .slice (some ⟨gt, 0, none⟩) (n - 1) tc2) rfl
  have k3 := hw.at 3 (v := vi y.s.day) rfl
  have k4 := hw.at 4 (v := .slice (some ⟨gr, 0, none⟩) (n - 1) rc2) rfl
  have hnn : newer w ((((((w9).setCell ⟨w.heap.size + 1, 0, none⟩ (.slice y.sa y.s.spots.length y.sc)).setCell ⟨w.heap.size + 1, 1, none⟩ (vi y.s.strain)).setCell ⟨w.heap.size + 1, 2, none⟩ (.slice (some ⟨gt, 0, none⟩) (n - 1) tc2)).setCell ⟨w.heap.size + 1, 3, none⟩ (vi y.s.day)).setCell ⟨w.heap.size + 1, 4, none⟩ (.slice (some ⟨gr, 0, none⟩) (n - 1) rc2)) := (((((H9.out.1).setCell (p := ⟨w.heap.size + 1, 0, none⟩) (by dsimp only; omega) (.slice y.sa y.s.spots.length y.sc)).setCell (p := ⟨w.heap.size + 1, 1, none⟩) (by dsimp only; omega) (vi y.s.strain)).setCell (p := ⟨w.heap.size + 1, 2, none⟩) (by dsimp only; omega) (.slice (some ⟨gt, 0, none⟩) (n - 1) tc2)).setCell (p := ⟨w.heap.size + 1, 3, none⟩) (by dsimp only; omega) (vi y.s.day)).setCell (p := ⟨w.heap.size + 1, 4, none⟩) (by dsimp only; omega) (.slice (some ⟨gr, 0, none⟩) (n - 1) rc2)
  have hto := own_put5 H9.out.2.1 H9.out.2.2.1 (by decide) (.slice y.sa y.s.spots.length y.sc) (vi y.s.strain) (.slice (some ⟨gt, 0, none⟩) (n - 1) tc2) (vi y.s.day) (.slice (some ⟨gr, 0, none⟩) (n - 1) rc2)
  have hin := own_put5 H9.out.2.1 H9.out.2.2.2 (by decide) (.slice y.sa y.s.spots.length y.sc) (vi y.s.strain) (.slice (some ⟨gt, 0, none⟩) (n - 1) tc2) (vi y.s.day) (.slice (some ⟨gr, 0, none⟩) (n - 1) rc2)
  have hz := drop_ok (HOK.out.next hnn).sp HN.out.1 HN.out.2 hi hto hin
  have HZ := Lib.hid (And.intro hz hnn)
  exact bodyPost_ret (v := .agg #[.slice y.sa y.s.spots.length y.sc, vi y.s.strain, .slice (some ⟨gt, 0, none⟩) (n - 1) tc2, vi y.s.day, .slice (some ⟨gr, 0, none⟩) (n - 1) rc2]) (by simp [results, Try.results80, go_sem, k0, k1, k2, k3, k4]) rfl ⟨_, tc2, _, rc2, rfl, HZ.out.1, HZ.out.2⟩
set_option maxRecDepth 100000 in
set_option maxHeartbeats 4000000 in
theorem blame_any (y : Sm) (w : World) (hok : SmOk y w) (few : SmFew y) : Calls Try.prog 49 #[smV y] w fun e w' => ∃ B d, e = .returned (.tuple #[.slice B (blameL y.s).length d, vi (blameE y.s)]) ∧ w'.ownsRow w.heap.size 3 1 (.slice B (blameL y.s).length d) (blameL y.s).length ((blameL y.s).map vi) ∧ newer w w' := by
  have hnil : ∀ w' : World, w'.ownsRow w.heap.size 3 1 (.slice none 0 0) 0 [] := fun w' => ⟨rfl, .inl ⟨rfl, rfl⟩⟩
  have hnw := newer_allocH w (.cells (smC y) 40)
  have HC := Lib.hid (check_any y _ (hok.next hnw) few)
  have HN := Lib.hid hnw
  have HOK := Lib.hid hok
  have HNIL := Lib.hid hnil
  have x0 := (Whole.made w 40 (smC y)).at 0 (v := .slice y.sa y.s.spots.length y.sc) rfl
  have x1 := (Whole.made w 40 (smC y)).at 1 (v := vi y.s.strain) rfl
  have x2 := (Whole.made w 40 (smC y)).at 2 (v := .slice y.ta y.s.tools.length y.tc) rfl
  have x3 := (Whole.made w 40 (smC y)).at 3 (v := vi y.s.day) rfl
  have x4 := (Whole.made w 40 (smC y)).at 4 (v := .slice y.ra y.s.reads.length y.rc) rfl
  have hbx := Whole.made w 40 (smC y)
  have HBX := Lib.hid hbx
  clear hnw hok few hbx hnil
  by_cases he : errN y.s = 0
  case neg =>
    have hE : blameE y.s = errN y.s := by unfold blameE; rw [if_neg he]
    have hL : blameL y.s = [] := by unfold blameL; rw [if_neg (by rw [hE]; exact he)]
    rw [hE, hL]
    obtain ⟨p, hp⟩ : ∃ q, q = errN y.s := ⟨_, rfl⟩
    rw [← hp] at HC he ⊢
    clear hp hE hL
    go_enter Try.func49, Try.ntmps49
    go_wp2_with fail
    refine (HC.out).mono ?_
    rintro e w1 ⟨rfl, hb⟩
    have HE := Lib.hid (newer_trans HN.out hb)
    clear hb HC x0 x1 x2 x3 x4
    go_wp2_with fail
    go_ret2
    exact ⟨none, 0, rfl, HNIL.out _, HE.out⟩
  case pos =>
    rw [he] at HC
    have HS := Lib.hid (err_iff.1 he)
    have HE0 := Lib.hid he
    clear he
    cases ho : okS y.s (freeL y.s) with
    | true =>
      have hE : blameE y.s = 7 := by unfold blameE; rw [if_pos HE0.out, if_pos ho]
      have hL : blameL y.s = [] := by unfold blameL; rw [if_neg (by rw [hE]; decide)]
      have HO := Lib.hid ho
      rw [hE, hL]
      clear hE hL ho
      go_enter Try.func49, Try.ntmps49
      go_wp2_with fail
      refine (HC.out).mono ?_
      rintro e w1 ⟨rfl, hb⟩
      have hx1 := HBX.out.below hb HBX.out.lt
      clear x0 x1 x2 x3 x4
      have x0 := hx1.at 0 (v := .slice y.sa y.s.spots.length y.sc) rfl
      have x1 := hx1.at 1 (v := vi y.s.strain) rfl
      have x2 := hx1.at 2 (v := .slice y.ta y.s.tools.length y.tc) rfl
      have x3 := hx1.at 3 (v := vi y.s.day) rfl
      have x4 := hx1.at 4 (v := .slice y.ra y.s.reads.length y.rc) rfl
      have HB1 := Lib.hid hx1
      have HE := Lib.hid (newer_trans HN.out hb)
      have HOP := Lib.hid (fun W => open_any y W HS.out.few)
      have HAT := Lib.hid (fun B c W (hG : newer w1 W) (hr : Row koL 1 W W.heap.size B (freeL y.s)) => at_any y (freeL y.s) B c W (HOK.out.next (newer_trans HE.out hG)) HS.out hr (free_len y.s) (fun o ho k hk => by
        have := List.eq_of_mem_replicate ho
        rw [this] at hk
        cases hk))
      clear hb HC hx1
      go_wp2_with fail
      refine wp_words (by kernel_rfl) (region_told 8 (by kernel_rfl) (by kernel_rfl) (fun W => Below w1.heap.size w1 W) newer (pickD [vIs (smV y), vIs (smV y), vRowO (freeL y.s), vAtO y (freeL y.s) w1.heap.size, vAtO y (freeL y.s) w1.heap.size, vLookO y (freeL y.s) w1.heap.size, vIs (.bool (okS y.s (freeL y.s))), vLookO y (freeL y.s) w1.heap.size]) (fun h k => newer_trans h k) (pickD_stable _ ⟨vIs_st, vIs_st, vRowO_st, vAtO_st, vAtO_st, vLookO_st, vIs_st, vLookO_st, trivial⟩) (Below.refl _ w1).drew (Below.refl _ _) ?_ ?_)
      · refine ⟨?_, ?_, ?_, ?_, ?_, ?_, ?_, ?_, trivial⟩
        · intro a W hG hR hO hp
          have h1 := hO.slot 1 (by kernel_rfl)
          have c0 := keep_cell x0 hG
          have c1 := keep_cell x1 hG
          have c2 := keep_cell x2 hG
          have c3 := keep_cell x3 hG
          have c4 := keep_cell x4 hG
          refine kY (v := smV y) hG rfl ?_
          simp [slotOf] at h1
          simp [execOp, go_sem, h1, c0, c1, c2, c3, c4]
        · intro a W hG hR hO hp
          have h1 := hO.slot 1 (by kernel_rfl)
          have c0 := keep_cell x0 hG
          have c1 := keep_cell x1 hG
          have c2 := keep_cell x2 hG
          have c3 := keep_cell x3 hG
          have c4 := keep_cell x4 hG
          refine kY (v := smV y) hG rfl ?_
          simp [slotOf] at h1
          simp [execOp, go_sem, h1, c0, c1, c2, c3, c4]
        · intro a W hG hR hO hp
          have h19 : slotOf a 19 = smV y := hp.1
          refine wp_enters (f := 62) (args := #[smV y]) ?_ ((HOP.out W).mono ?_)
          · simp [slotOf] at h19
            simp [go_sem, h19]
          · rintro e w' ⟨q, rfl, h1, h2, h3⟩
            exact ⟨_, rfl, _, rfl, ⟨_, _, rfl, row_of_whole (enc := koL) (s := 1) (fun _ => rfl) h1 (free_cells y.s)⟩, h3, below_next hG h3⟩
        · intro a W hG hR hO hp
          have h18 : slotOf a 18 = smV y := hp.1
          have h20 := hp.2.1
          obtain ⟨B, c, h20, hrow⟩ := h20
          refine wp_enters (f := 61) (args := #[smV y, .slice B (freeL y.s).length c]) ?_ ((HAT.out B c W hG hrow).mono ?_)
          · simp [slotOf] at h18 h20
            simp [go_sem, h18, h20]
          · rintro e w' ⟨lb, rfl, h1, h2⟩
            exact ⟨_, rfl, _, rfl, ⟨lb, rfl, fun ho => let ⟨ms, A, c, h3⟩ := h2 ho; ⟨ms, A, c, h3.low hG.size⟩⟩, h1, below_next hG h1⟩
        · intro a W hG hR hO hp
          have h21 := hp.1
          obtain ⟨lb, h21, hl⟩ := h21
          refine wp_yields (v := .tuple #[ptV lb, .bool (okS y.s (freeL y.s))]) ?_ ⟨_, rfl, ⟨lb, rfl, hl⟩, Below.refl _ _, hG⟩
          simp [slotOf] at h21
          simp [execOp, go_sem, h21]
        · intro a W hG hR hO hp
          have h17 := hp.1
          obtain ⟨lb, h17, hl⟩ := h17
          refine wp_yields (v := ptV lb) ?_ ⟨_, rfl, ⟨lb, rfl, hl⟩, Below.refl _ _, hG⟩
          simp [slotOf] at h17
          simp [execOp, go_sem, h17]
        · intro a W hG hR hO hp
          have h17 := hp.1
          obtain ⟨lb, h17, hl⟩ := h17
          refine wp_yields (v := .bool (okS y.s (freeL y.s))) ?_ ⟨_, rfl, rfl, Below.refl _ _, hG⟩
          simp [slotOf] at h17
          simp [execOp, go_sem, h17]
        · intro a W hG hR hO hp
          have h22 := hp.1
          obtain ⟨lb, h22, hl⟩ := h22
          refine wp_yields (v := ptV lb) ?_ ⟨_, rfl, ⟨lb, rfl, hl⟩, Below.refl _ _, hG⟩
          simp [slotOf] at h22
          simp [execOp, go_sem, h22]
      · intro w2 hG hR
        rintro _ rfl _ rfl _ - _ - _ - _ ⟨xq, rfl, -⟩ _ rfl _ ⟨xb, rfl, -⟩
        change wpList _ _ _ _ _ _
        simp only [Act.put, List.setIfInBounds_toArray, List.set_cons_zero, List.set_cons_succ, List.drop_succ_cons, List.drop_zero]
        have HN2 := Lib.hid (newer_trans HE.out hG)
        clear hG hR HOP HAT x0 x1 x2 x3 x4
        rw [HO.out]
        go_wp2_with fail
        go_ret2
        exact ⟨none, 0, rfl, HNIL.out _, HN2.out⟩
    | false =>
      have hE : blameE y.s = if blameK y.s y.s.tools.length = [] then 9 else 0 := by unfold blameE; rw [if_pos HE0.out, if_neg (by rw [ho]; decide)]
      have hL : blameL y.s = blameK y.s y.s.tools.length := by
        unfold blameL
        by_cases hk : blameK y.s y.s.tools.length = []
        · rw [hE, if_pos hk, if_neg (by decide), hk]
        · rw [hE, if_neg hk, if_pos rfl]
      have HO := Lib.hid ho
      obtain ⟨E, hEE⟩ : ∃ q, q = blameE y.s := ⟨_, rfl⟩
      rw [← hEE, hL]
      rw [← hEE] at hE
      have HEE := Lib.hid hE
      clear hE hL ho hEE
      go_enter Try.func49, Try.ntmps49
      go_wp2_with fail
      refine (HC.out).mono ?_
      rintro e w1 ⟨rfl, hb⟩
      have hx1 := HBX.out.below hb HBX.out.lt
      clear x0 x1 x2 x3 x4
      have x0 := hx1.at 0 (v := .slice y.sa y.s.spots.length y.sc) rfl
      have x1 := hx1.at 1 (v := vi y.s.strain) rfl
      have x2 := hx1.at 2 (v := .slice y.ta y.s.tools.length y.tc) rfl
      have x3 := hx1.at 3 (v := vi y.s.day) rfl
      have x4 := hx1.at 4 (v := .slice y.ra y.s.reads.length y.rc) rfl
      have HB1 := Lib.hid hx1
      have HE := Lib.hid (newer_trans HN.out hb)
      have HOP := Lib.hid (fun W => open_any y W HS.out.few)
      have HAT := Lib.hid (fun B c W (hG : newer w1 W) (hr : Row koL 1 W W.heap.size B (freeL y.s)) => at_any y (freeL y.s) B c W (HOK.out.next (newer_trans HE.out hG)) HS.out hr (free_len y.s) (fun o ho k hk => by
        have := List.eq_of_mem_replicate ho
        rw [this] at hk
        cases hk))
      clear hb HC hx1
      go_wp2_with fail
      refine wp_words (by kernel_rfl) (region_told 8 (by kernel_rfl) (by kernel_rfl) (fun W => Below w1.heap.size w1 W) newer (pickD [vIs (smV y), vIs (smV y), vRowO (freeL y.s), vAtO y (freeL y.s) w1.heap.size, vAtO y (freeL y.s) w1.heap.size, vLookO y (freeL y.s) w1.heap.size, vIs (.bool (okS y.s (freeL y.s))), vLookO y (freeL y.s) w1.heap.size]) (fun h k => newer_trans h k) (pickD_stable _ ⟨vIs_st, vIs_st, vRowO_st, vAtO_st, vAtO_st, vLookO_st, vIs_st, vLookO_st, trivial⟩) (Below.refl _ w1).drew (Below.refl _ _) ?_ ?_)
      · refine ⟨?_, ?_, ?_, ?_, ?_, ?_, ?_, ?_, trivial⟩
        · intro a W hG hR hO hp
          have h1 := hO.slot 1 (by kernel_rfl)
          have c0 := keep_cell x0 hG
          have c1 := keep_cell x1 hG
          have c2 := keep_cell x2 hG
          have c3 := keep_cell x3 hG
          have c4 := keep_cell x4 hG
          refine kY (v := smV y) hG rfl ?_
          simp [slotOf] at h1
          simp [execOp, go_sem, h1, c0, c1, c2, c3, c4]
        · intro a W hG hR hO hp
          have h1 := hO.slot 1 (by kernel_rfl)
          have c0 := keep_cell x0 hG
          have c1 := keep_cell x1 hG
          have c2 := keep_cell x2 hG
          have c3 := keep_cell x3 hG
          have c4 := keep_cell x4 hG
          refine kY (v := smV y) hG rfl ?_
          simp [slotOf] at h1
          simp [execOp, go_sem, h1, c0, c1, c2, c3, c4]
        · intro a W hG hR hO hp
          have h19 : slotOf a 19 = smV y := hp.1
          refine wp_enters (f := 62) (args := #[smV y]) ?_ ((HOP.out W).mono ?_)
          · simp [slotOf] at h19
            simp [go_sem, h19]
          · rintro e w' ⟨q, rfl, h1, h2, h3⟩
            exact ⟨_, rfl, _, rfl, ⟨_, _, rfl, row_of_whole (enc := koL) (s := 1) (fun _ => rfl) h1 (free_cells y.s)⟩, h3, below_next hG h3⟩
        · intro a W hG hR hO hp
          have h18 : slotOf a 18 = smV y := hp.1
          have h20 := hp.2.1
          obtain ⟨B, c, h20, hrow⟩ := h20
          refine wp_enters (f := 61) (args := #[smV y, .slice B (freeL y.s).length c]) ?_ ((HAT.out B c W hG hrow).mono ?_)
          · simp [slotOf] at h18 h20
            simp [go_sem, h18, h20]
          · rintro e w' ⟨lb, rfl, h1, h2⟩
            exact ⟨_, rfl, _, rfl, ⟨lb, rfl, fun ho => let ⟨ms, A, c, h3⟩ := h2 ho; ⟨ms, A, c, h3.low hG.size⟩⟩, h1, below_next hG h1⟩
        · intro a W hG hR hO hp
          have h21 := hp.1
          obtain ⟨lb, h21, hl⟩ := h21
          refine wp_yields (v := .tuple #[ptV lb, .bool (okS y.s (freeL y.s))]) ?_ ⟨_, rfl, ⟨lb, rfl, hl⟩, Below.refl _ _, hG⟩
          simp [slotOf] at h21
          simp [execOp, go_sem, h21]
        · intro a W hG hR hO hp
          have h17 := hp.1
          obtain ⟨lb, h17, hl⟩ := h17
          refine wp_yields (v := ptV lb) ?_ ⟨_, rfl, ⟨lb, rfl, hl⟩, Below.refl _ _, hG⟩
          simp [slotOf] at h17
          simp [execOp, go_sem, h17]
        · intro a W hG hR hO hp
          have h17 := hp.1
          obtain ⟨lb, h17, hl⟩ := h17
          refine wp_yields (v := .bool (okS y.s (freeL y.s))) ?_ ⟨_, rfl, rfl, Below.refl _ _, hG⟩
          simp [slotOf] at h17
          simp [execOp, go_sem, h17]
        · intro a W hG hR hO hp
          have h22 := hp.1
          obtain ⟨lb, h22, hl⟩ := h22
          refine wp_yields (v := ptV lb) ?_ ⟨_, rfl, ⟨lb, rfl, hl⟩, Below.refl _ _, hG⟩
          simp [slotOf] at h22
          simp [execOp, go_sem, h22]
      · intro w2 hG hR
        rintro _ rfl _ rfl _ - _ - _ - _ ⟨xq, rfl, -⟩ _ rfl _ ⟨xb, rfl, -⟩
        change wpList _ _ _ _ _ _
        simp only [Act.put, List.setIfInBounds_toArray, List.set_cons_zero, List.set_cons_succ, List.drop_succ_cons, List.drop_zero]
        have HN2 := Lib.hid (newer_trans HE.out hG)
        have HB2 := Lib.hid (HB1.out.below hG HB1.out.lt)
        clear hG hR HOP HAT x0 x1 x2 x3 x4
        rw [HO.out]
        have x2 := HB2.out.at 2 (v := .slice y.ta y.s.tools.length y.tc) rfl
        obtain ⟨n, hn⟩ : ∃ n, n = y.s.tools.length := ⟨_, rfl⟩
        have hn8 : n ≤ 8 := by rw [hn]; exact HS.out.few
        rw [← hn] at x2 ⊢
        have HNN := Lib.hid hn
        obtain ⟨i0, hi0, hz0, hz1, hz2⟩ := info_parts info_int
        have HI := Lib.hid (And.intro hi0 (And.intro hz0 (And.intro hz1 hz2)))
        rw [← hn] at HEE
        clear hn hi0 hz0 hz1 hz2
        go_wp2_with fail
        clear x2
        go_loopw [7, 8, 9, 10, 11, 28] (fun s7 _ _ _ _ s28 wr => ∃ (i k : Nat) (B : Option Addr) (d : Nat), i ≤ n ∧ s28 = vi i ∧ k = (blameK y.s i).length ∧ s7 = .slice B k d ∧ wr.ownsRow w2.heap.size 3 1 (.slice B k d) k ((blameK y.s i).map vi) ∧ newer w2 wr) (fun _ _ _ _ _ s28 _ => n - (intOf s28).toNat)
        case atStart => exact ⟨0, 0, none, 0, Nat.zero_le _, rfl, rfl, rfl, ⟨rfl, .inl ⟨rfl, rfl⟩⟩, newer_refl _⟩
        case round =>
          obtain ⟨i, k, B, d, hi, rfl, hk, rfl, hown, hnx⟩ := hrel
          have HJ := Lib.hid (And.intro hown hnx)
          have hki : k ≤ i := by rw [hk]; exact blameK_len _ _
          have HK := Lib.hid hk
          clear hk
          by_cases hlt : i < n
          case neg =>
            obtain rfl : i = n := by omega
            have hge : ¬ (i : Int) < i := by omega
            clear hown hnx hlt
            by_cases hk0 : k = 0
            · have hkb : ((k : Int) == 0) = true := by simp [hk0]
              have hkb2 : (k == 0) = true := by simp [hk0]
              have hnl : blameK y.s i = [] := List.eq_nil_of_length_eq_zero (by rw [← HK.out, hk0])
              have hE9 : E = 9 := by rw [HEE.out, if_pos hnl]
              subst hE9
              have HNL := Lib.hid (show blameK y.s y.s.tools.length = [] by rw [← HNN.out]; exact hnl)
              clear hk0 hnl
              go_wp2_with fail
              go_ret2
              exact ⟨none, 0, by rw [HNL.out]; rfl, by rw [HNL.out]; exact HNIL.out _, newer_trans HN2.out HJ.out.2⟩
            · have hkb : ((k : Int) == 0) = false := by simpa using hk0
              have hkb2 : (k == 0) = false := by simpa using hk0
              have hE9 : E = 0 := by rw [HEE.out, if_neg (fun h => hk0 (by rw [HK.out, h]; rfl))]
              subst hE9
              clear hk0
              go_wp2_with fail
              go_ret2
              exact ⟨B, d, by rw [← HNN.out, ← HK.out]; rfl, by rw [← HNN.out, ← HK.out]; exact own_more HJ.out.1 HN2.out.size, newer_trans HN2.out HJ.out.2⟩
          case pos =>
            have hin : (i : Int) < n := by omega
            have hn3 := newer_trans HN2.out hnx
            have x0 := (HB2.out.below hnx HB2.out.lt).at 0 (v := .slice y.sa y.s.spots.length y.sc) rfl
            have x1 := (HB2.out.below hnx HB2.out.lt).at 1 (v := vi y.s.strain) rfl
            have x2 := (HB2.out.below hnx HB2.out.lt).at 2 (v := .slice y.ta y.s.tools.length y.tc) rfl
            have x3 := (HB2.out.below hnx HB2.out.lt).at 3 (v := vi y.s.day) rfl
            have x4 := (HB2.out.below hnx HB2.out.lt).at 4 (v := .slice y.ra y.s.reads.length y.rc) rfl
            have HN3 := Lib.hid hn3
            have HIN := Lib.hid hlt
            clear hown hnx hn3
            go_wp2_with fail
            refine (without_any y i n wr (HOK.out.next HN3.out) hn8 HNN.out.symm (by rw [HS.out.reads]; exact HNN.out.symm) HIN.out).mono ?_
            rintro e w3 ⟨A, c, B2, d2, rfl, hoz, hb⟩
            have H3 := Lib.hid (And.intro hoz hb)
            clear hoz hb x0 x1 x2 x3 x4
            obtain ⟨Z, hZ⟩ : ∃ Z : Sm, Z = ⟨dropS y.s i, y.sa, y.sc, A, c, B2, d2⟩ := ⟨_, rfl⟩
            have hZs : Z.s = dropS y.s i := by rw [hZ]
            have hZo : SdOk Z.s := by rw [hZs]; exact dropS_ok HS.out (by rw [← HNN.out]; exact HIN.out)
            have hZc : #[.slice y.sa y.s.spots.length y.sc, vi y.s.strain, .slice A (n - 1) c, vi y.s.day, .slice B2 (n - 1) d2] = smC Z := by
              rw [hZ]
              show _ = (#[_, _, Value.slice _ (dropS y.s i).tools.length _, _, Value.slice _ (dropS y.s i).reads.length _] : Array Value)
              rw [dropS_len (by rw [← HNN.out]; exact HIN.out), dropS_rlen (by rw [HS.out.reads, ← HNN.out]; exact HIN.out), HS.out.reads, ← HNN.out]
              rfl
            have hZk : SmOk Z w3 := by rw [hZ]; exact H3.out.1
            have HZC := Lib.hid (And.intro hZc (And.intro hZs (And.intro hZo hZk)))
            clear hZc hZ hZs hZo hZk
            go_upto_region 12 with fail
            obtain ⟨lb, hlb⟩ : ∃ q, q = w3.heap.size := ⟨_, rfl⟩
            obtain ⟨hZc, hZs, hZo, hZk⟩ := HZC.out
            rw [hZc, ← hlb]
            have hna := newer_allocH w3 (.cells (smC Z) 40)
            refine genQ (fun X => newer w3 X ∧ Whole X lb 40 (smC Z)) ⟨hna, by rw [hlb]; exact Whole.made _ _ _⟩ ?_
            rintro w4 ⟨hn4, hz4⟩
            have HOZ := Lib.hid (fun W => open_any Z W hZo.few)
            have HAZ := Lib.hid (fun B c W (hG : newer w4 W) (hr : Row koL 1 W W.heap.size B (freeL Z.s)) => at_any Z (freeL Z.s) B c W (hZk.next (newer_trans hn4 hG)) hZo hr (free_len Z.s) (fun o ho k hk => by
              have := List.eq_of_mem_replicate ho
              rw [this] at hk
              cases hk))
            have HZS := Lib.hid hZs
            have HN4 := Lib.hid (newer_trans H3.out.2 hn4)
            have z0 := hz4.at 0 (v := .slice Z.sa Z.s.spots.length Z.sc) rfl
            have z1 := hz4.at 1 (v := vi Z.s.strain) rfl
            have z2 := hz4.at 2 (v := .slice Z.ta Z.s.tools.length Z.tc) rfl
            have z3 := hz4.at 3 (v := vi Z.s.day) rfl
            have z4 := hz4.at 4 (v := .slice Z.ra Z.s.reads.length Z.rc) rfl
            clear hz4 hn4 hna hZs hZo hZc hZk hlb HZC
            refine wp_words (by kernel_rfl) (region_told 8 (by kernel_rfl) (by kernel_rfl) (fun W => Below w4.heap.size w4 W) newer (pickD [vIs (smV Z), vIs (smV Z), vRowO (freeL Z.s), vAtO Z (freeL Z.s) w4.heap.size, vAtO Z (freeL Z.s) w4.heap.size, vLookO Z (freeL Z.s) w4.heap.size, vIs (.bool (okS Z.s (freeL Z.s))), vLookO Z (freeL Z.s) w4.heap.size]) (fun h k => newer_trans h k) (pickD_stable _ ⟨vIs_st, vIs_st, vRowO_st, vAtO_st, vAtO_st, vLookO_st, vIs_st, vLookO_st, trivial⟩) (Below.refl _ w4).drew (Below.refl _ _) ?_ ?_)
            · refine ⟨?_, ?_, ?_, ?_, ?_, ?_, ?_, ?_, trivial⟩
              · intro a W hG hR hO hp
                have h9 := hO.slot 9 (by kernel_rfl)
                have c0 := keep_cell z0 hG
                have c1 := keep_cell z1 hG
                have c2 := keep_cell z2 hG
                have c3 := keep_cell z3 hG
                have c4 := keep_cell z4 hG
                refine kY (v := smV Z) hG rfl ?_
                simp [slotOf] at h9
                simp [execOp, go_sem, h9, c0, c1, c2, c3, c4]
              · intro a W hG hR hO hp
                have h9 := hO.slot 9 (by kernel_rfl)
                have c0 := keep_cell z0 hG
                have c1 := keep_cell z1 hG
                have c2 := keep_cell z2 hG
                have c3 := keep_cell z3 hG
                have c4 := keep_cell z4 hG
                refine kY (v := smV Z) hG rfl ?_
                simp [slotOf] at h9
                simp [execOp, go_sem, h9, c0, c1, c2, c3, c4]
              · intro a W hG hR hO hp
                have h36 : slotOf a 36 = smV Z := hp.1
                refine wp_enters (f := 62) (args := #[smV Z]) ?_ ((HOZ.out W).mono ?_)
                · simp [slotOf] at h36
                  simp [go_sem, h36]
                · rintro e w' ⟨q, rfl, h1, h2, h3⟩
                  exact ⟨_, rfl, _, rfl, ⟨_, _, rfl, row_of_whole (enc := koL) (s := 1) (fun _ => rfl) h1 (free_cells Z.s)⟩, h3, below_next hG h3⟩
              · intro a W hG hR hO hp
                have h35 : slotOf a 35 = smV Z := hp.1
                have h37 := hp.2.1
                obtain ⟨B, c, h37, hrow⟩ := h37
                refine wp_enters (f := 61) (args := #[smV Z, .slice B (freeL Z.s).length c]) ?_ ((HAZ.out B c W hG hrow).mono ?_)
                · simp [slotOf] at h35 h37
                  simp [go_sem, h35, h37]
                · rintro e w' ⟨lb, rfl, h1, h2⟩
                  exact ⟨_, rfl, _, rfl, ⟨lb, rfl, fun ho => let ⟨ms, A, c, h3⟩ := h2 ho; ⟨ms, A, c, h3.low hG.size⟩⟩, h1, below_next hG h1⟩
              · intro a W hG hR hO hp
                have h38 := hp.1
                obtain ⟨lb, h38, hl⟩ := h38
                refine wp_yields (v := .tuple #[ptV lb, .bool (okS Z.s (freeL Z.s))]) ?_ ⟨_, rfl, ⟨lb, rfl, hl⟩, Below.refl _ _, hG⟩
                simp [slotOf] at h38
                simp [execOp, go_sem, h38]
              · intro a W hG hR hO hp
                have h34 := hp.1
                obtain ⟨lb, h34, hl⟩ := h34
                refine wp_yields (v := ptV lb) ?_ ⟨_, rfl, ⟨lb, rfl, hl⟩, Below.refl _ _, hG⟩
                simp [slotOf] at h34
                simp [execOp, go_sem, h34]
              · intro a W hG hR hO hp
                have h34 := hp.1
                obtain ⟨lb, h34, hl⟩ := h34
                refine wp_yields (v := .bool (okS Z.s (freeL Z.s))) ?_ ⟨_, rfl, rfl, Below.refl _ _, hG⟩
                simp [slotOf] at h34
                simp [execOp, go_sem, h34]
              · intro a W hG hR hO hp
                have h39 := hp.1
                obtain ⟨lb, h39, hl⟩ := h39
                refine wp_yields (v := ptV lb) ?_ ⟨_, rfl, ⟨lb, rfl, hl⟩, Below.refl _ _, hG⟩
                simp [slotOf] at h39
                simp [execOp, go_sem, h39]
            · intro w5 hG hR
              rintro _ rfl _ rfl _ - _ - _ - _ ⟨xq, rfl, -⟩ _ rfl _ ⟨xb, rfl, -⟩
              change wpList _ _ _ _ _ _
              simp only [Act.put, List.setIfInBounds_toArray, List.set_cons_zero, List.set_cons_succ, List.drop_succ_cons, List.drop_zero]
              have HN5 := Lib.hid (newer_trans HN4.out hG)
              clear hG hR HOZ HAZ z0 z1 z2 z3 z4
              have HKS := Lib.hid (blameK_succ y.s i)
              rw [HZS.out]
              obtain ⟨b, hb⟩ : ∃ b, b = okS (dropS y.s i) (freeL (dropS y.s i)) := ⟨_, rfl⟩
              rw [← hb] at HKS ⊢
              clear hb
              have hk8 : k ≤ 8 := by omega
              have HO5 := Lib.hid (own_below HJ.out.1 HN5.out)
              have HN25 := Lib.hid (newer_trans HJ.out.2 HN5.out)
              cases b with
              | false =>
                have hks : blameK y.s (i + 1) = blameK y.s i := by rw [HKS.out, if_neg (by decide), List.append_nil]
                have HQ := Lib.hid hks
                clear hks HKS
                go_wp2_with fail
                refine ⟨⟨i + 1, k, B, d, by omega, rfl, by rw [HQ.out]; exact HK.out, rfl, by rw [HQ.out]; exact HO5.out, HN25.out⟩, ?_⟩
                simp [intOf]
                omega
              | true =>
                have hks : blameK y.s (i + 1) = blameK y.s i ++ [(i : Int)] := by rw [HKS.out, if_pos rfl]
                have HQ := Lib.hid hks
                clear hks HKS
                have HV1 : Hid (Whole (w5.alloc (.cells #[vi i] 3)) w5.heap.size 3 #[vi i]) := Lib.hid (Whole.made _ _ _)
                have HO6 := Lib.hid (own_below HO5.out (newer_allocH w5 (.cells #[vi i] 3)))
                have HSZ := Lib.hid (show w2.heap.size ≤ (w5.alloc (.cells #[vi i] 3)).heap.size by have := HN25.out.size; rw [World.size_alloc]; omega)
                go_wp2_with (at_builtin; go_loud ((refine wpList_plain rfl fun _ hK => wp_append_one (.tmp 42) (.tmp 44) 24 rfl w2.heap.size 3 i0 (.int .i64 0) 8 Try.underlying24 HI.out.1 HI.out.2.1 HI.out.2.2.1 HI.out.2.2.2 rfl B k d ((blameK y.s i).map vi) rfl HO6.out ⟨w5.heap.size, 0, none⟩ 1 (vi i) rfl (HV1.out.at 0 rfl) rfl (by unfold maxLen; omega) (by omega) HSZ.out fun g2 c2 w6 hown hwh => hK _ _ ?_); have HE6 := Lib.hid (And.intro hown (below_row (newer_trans HN25.out (newer_allocH w5 (.cells #[vi i] 3))) HO6.out (Onto1.grown (A := B) (c := d) (n := k) hwh) (Nat.le_refl _))); clear hown hwh))
                refine ⟨⟨i + 1, k + 1, _, c2, by omega, rfl, by rw [HQ.out, List.length_append, ← HK.out]; rfl, rfl, by rw [HQ.out, List.map_append]; exact HE6.out.1, HE6.out.2⟩, ?_⟩
                simp [intOf]
                omega

end Go.Proofs.Ytpmafnifgegfbaa
