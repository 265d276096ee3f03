/- Near, by the reference. -/
import Derived.Test.YtpmafnifgegfbaaK
namespace Go.Proofs.Ytpmafnifgegfbaa
open Go.RowKit Go.Shelf Go.Deep

set_option maxRecDepth 100000 in
set_option maxHeartbeats 2000000 in
theorem refNear_any (y : Sm) (o m : Mv) (w : World) (h1 : -1000000 ≤ m.1 ∧ m.1 ≤ 1000000) (h2 : -1000000 ≤ m.2 ∧ m.2 ≤ 1000000) (h3 : -1000000 ≤ o.1 ∧ o.1 ≤ 1000000) (h4 : -1000000 ≤ o.2 ∧ o.2 ≤ 1000000) :
    Calls Try.prog 69 #[smV y, mvV o, mvV m] w fun e w' => e = .returned (.bool (nearB y.s.strain o m)) ∧ newer w w' := by
  obtain ⟨ox, oy⟩ := o
  obtain ⟨mx, my⟩ := m
  dsimp only at h1 h2 h3 h4
  have hnw := newer_trans (newer_trans (newer_allocH w (.cells (smC y) 26)) (newer_allocH (w.alloc (.cells (smC y) 26)) (.cells #[vi ox, vi oy] 47))) (newer_allocH ((w.alloc (.cells (smC y) 26)).alloc (.cells #[vi ox, vi oy] 47)) (.cells #[vi mx, vi my] 47))
  have hxb := ((Whole.made w 26 (smC y)).alloc (.cells #[vi ox, vi oy] 47)).alloc (.cells #[vi mx, vi my] 47)
  have hob := (Whole.made (w.alloc (.cells (smC y) 26)) 47 #[vi ox, vi oy]).alloc (.cells #[vi mx, vi my] 47)
  have hmb := Whole.made ((w.alloc (.cells (smC y) 26)).alloc (.cells #[vi ox, vi oy] 47)) 47 #[vi mx, vi my]
  simp only [World.size_alloc] at hob hmb
  have hw1 : IntKind.i64.wrap (ox - mx) = ox - mx := IntWalk.i64_in _ (by omega)
  have hw2 : IntKind.i64.wrap (oy - my) = oy - my := IntWalk.i64_in _ (by omega)
  have HA1 := Lib.hid (fun W => abs_any (ox - mx) W (by omega))
  have HA2 := Lib.hid (fun W => abs_any (oy - my) W (by omega))
  obtain ⟨ax, hax⟩ : ∃ a, a = amt (ox - mx) := ⟨_, rfl⟩
  obtain ⟨ay, hay⟩ : ∃ a, a = amt (oy - my) := ⟨_, rfl⟩
  rw [← hax] at HA1
  rw [← hay] at HA2
  have HNE : Hid (nearB y.s.strain (ox, oy) (mx, my) = (decide (ax ≤ y.s.strain) && decide (ay ≤ y.s.strain))) := Lib.hid (by rw [hax, hay]; rfl)
  obtain ⟨R, hR⟩ : ∃ R, R = nearB y.s.strain (ox, oy) (mx, my) := ⟨_, rfl⟩
  rw [← hR] at HNE ⊢
  clear hax hay hR
  have H1 := Lib.hid (And.intro (hnw) (And.intro (hxb) (And.intro (hob) (hmb))))
  clear hnw hxb hob hmb
  have x1 := H1.out.2.1.at 1 (v := vi y.s.strain) rfl
  have n0 := H1.out.2.2.1.at 0 (v := vi ox) rfl
  have n1 := H1.out.2.2.1.at 1 (v := vi oy) rfl
  have m0 := H1.out.2.2.2.at 0 (v := vi mx) rfl
  have m1 := H1.out.2.2.2.at 1 (v := vi my) rfl
  go_enter Try.func69, Try.ntmps69
  go_upto_region 1 with fail
  by_cases hq1 : ax ≤ y.s.strain
  · by_cases hq2 : ay ≤ y.s.strain
    · refine wp_words (by kernel_rfl) (region_told_u 20 (by kernel_rfl) (by kernel_rfl) [false, false, false, false, false, false, false, false, false, false, false, false, false, false, false, false, false, false, false, false] (fun W => Below (((w.alloc (.cells (smC y) 26)).alloc (.cells #[vi ox, vi oy] 47)).alloc (.cells #[vi mx, vi my] 47)).heap.size (((w.alloc (.cells (smC y) 26)).alloc (.cells #[vi ox, vi oy] 47)).alloc (.cells #[vi mx, vi my] 47)) W) newer [vIs (.pointer (some ⟨(w.heap.size + 1), 0, none⟩)), vIs (vi ox), vIs (.pointer (some ⟨(w.heap.size + 1 + 1), 0, none⟩)), vIs (vi mx), vIs (vi (ox - mx)), vIs (vi ax), vIs (.pointer (some ⟨w.heap.size, 1, none⟩)), vIs (vi y.s.strain), vIs (.bool true), vIs (.bool true), vIs (.pointer (some ⟨(w.heap.size + 1), 1, none⟩)), vIs (vi oy), vIs (.pointer (some ⟨(w.heap.size + 1 + 1), 1, none⟩)), vIs (vi my), vIs (vi (oy - my)), vIs (vi ay), vIs (.pointer (some ⟨w.heap.size, 1, none⟩)), vIs (vi y.s.strain), vIs (.bool true), vIs (.bool true)] ⟨rfl, rfl, rfl, rfl, rfl, rfl, rfl, rfl, rfl, rfl, (fun v W h => by obtain rfl : v = _ := h; rfl), (fun v W h => by obtain rfl : v = _ := h; rfl), (fun v W h => by obtain rfl : v = _ := h; rfl), (fun v W h => by obtain rfl : v = _ := h; rfl), (fun v W h => by obtain rfl : v = _ := h; rfl), (fun v W h => by obtain rfl : v = _ := h; rfl), (fun v W h => by obtain rfl : v = _ := h; rfl), (fun v W h => by obtain rfl : v = _ := h; rfl), (fun v W h => by obtain rfl : v = _ := h; rfl), rfl, trivial⟩ ⟨(fun h => Bool.noConfusion (show false = true from h)), (fun h => Bool.noConfusion (show false = true from h)), (fun h => Bool.noConfusion (show false = true from h)), (fun h => Bool.noConfusion (show false = true from h)), (fun h => Bool.noConfusion (show false = true from h)), (fun h => Bool.noConfusion (show false = true from h)), (fun h => Bool.noConfusion (show false = true from h)), (fun h => Bool.noConfusion (show false = true from h)), (fun h => Bool.noConfusion (show false = true from h)), (fun h => Bool.noConfusion (show false = true from h)), (fun h => Bool.noConfusion (show false = true from h)), (fun h => Bool.noConfusion (show false = true from h)), (fun h => Bool.noConfusion (show false = true from h)), (fun h => Bool.noConfusion (show false = true from h)), (fun h => Bool.noConfusion (show false = true from h)), (fun h => Bool.noConfusion (show false = true from h)), (fun h => Bool.noConfusion (show false = true from h)), (fun h => Bool.noConfusion (show false = true from h)), (fun h => Bool.noConfusion (show false = true from h)), (fun h => Bool.noConfusion (show false = true from h)), trivial⟩ (fun h k => newer_trans h k) (pickD_stable _ ⟨vIs_st, vIs_st, vIs_st, vIs_st, vIs_st, vIs_st, vIs_st, vIs_st, vIs_st, vIs_st, vIs_st, vIs_st, vIs_st, vIs_st, vIs_st, vIs_st, vIs_st, vIs_st, vIs_st, vIs_st, trivial⟩) (Below.refl _ (((w.alloc (.cells (smC y) 26)).alloc (.cells #[vi ox, vi oy] 47)).alloc (.cells #[vi mx, vi my] 47))).drew (Below.refl _ _) ?_ ?_)
      · refine ⟨.inr ?_, .inr ?_, .inr ?_, .inr ?_, .inr ?_, .inr ?_, .inr ?_, .inr ?_, .inr ?_, .inr ?_, .inr ?_, .inr ?_, .inr ?_, .inr ?_, .inr ?_, .inr ?_, .inr ?_, .inr ?_, .inr ?_, .inr ?_, trivial⟩
        · intro a W hG hR hO hp
          have h4 := hO.slot 4 (by kernel_rfl)
          refine kY (v := .pointer (some ⟨(w.heap.size + 1), 0, none⟩)) hG rfl ?_
          simp [slotOf] at h4
          simp [execOp, go_sem, h4]
        · intro a W hG hR hO hp
          have h7 : slotOf a 7 = .pointer (some ⟨(w.heap.size + 1), 0, none⟩) := hp.1
          have c0 := keep_cell n0 hG
          refine kY (v := vi ox) hG rfl ?_
          simp [slotOf] at h7
          simp [execOp, go_sem, h7, c0]
        · intro a W hG hR hO hp
          have h5 := hO.slot 5 (by kernel_rfl)
          refine kY (v := .pointer (some ⟨(w.heap.size + 1 + 1), 0, none⟩)) hG rfl ?_
          simp [slotOf] at h5
          simp [execOp, go_sem, h5]
        · intro a W hG hR hO hp
          have h9 : slotOf a 9 = .pointer (some ⟨(w.heap.size + 1 + 1), 0, none⟩) := hp.1
          have c0 := keep_cell m0 hG
          refine kY (v := vi mx) hG rfl ?_
          simp [slotOf] at h9
          simp [execOp, go_sem, h9, c0]
        · intro a W hG hR hO hp
          have h8 : slotOf a 8 = vi ox := hp.1
          have h10 : slotOf a 10 = vi mx := hp.2.1
          refine kY (v := vi (ox - mx)) hG rfl ?_
          simp [slotOf] at h8 h10
          simp [execOp, go_sem, h8, h10, hw1]
        · intro a W hG hR hO hp
          have h11 : slotOf a 11 = vi (ox - mx) := hp.1
          refine wp_enters (f := 106) (args := #[vi (ox - mx)]) ?_ ((HA1.out W).mono ?_)
          · simp [slotOf] at h11
            simp [go_sem, h11]
          · rintro e w' ⟨rfl, rfl⟩
            exact ⟨_, rfl, _, rfl, rfl, Below.refl _ _, hG⟩
        · intro a W hG hR hO hp
          have h3 := hO.slot 3 (by kernel_rfl)
          refine kY (v := .pointer (some ⟨w.heap.size, 1, none⟩)) hG rfl ?_
          simp [slotOf] at h3
          simp [execOp, go_sem, h3]
        · intro a W hG hR hO hp
          have h13 : slotOf a 13 = .pointer (some ⟨w.heap.size, 1, none⟩) := hp.1
          have c0 := keep_cell x1 hG
          refine kY (v := vi y.s.strain) hG rfl ?_
          simp [slotOf] at h13
          simp [execOp, go_sem, h13, c0]
        · intro a W hG hR hO hp
          have h12 : slotOf a 12 = vi ax := hp.1
          have h14 : slotOf a 14 = vi y.s.strain := hp.2.1
          refine kY (v := .bool true) hG rfl ?_
          simp [slotOf] at h12 h14
          simp [execOp, go_sem, h12, h14, hq1]
        · exact fun a W hG _ _ hp => kM 15 rfl hp.1 rfl hG
        · intro a W hG hR hO hp
          have h4 := hO.slot 4 (by kernel_rfl)
          refine kY (v := .pointer (some ⟨(w.heap.size + 1), 1, none⟩)) hG rfl ?_
          simp [slotOf] at h4
          simp [execOp, go_sem, h4]
        · intro a W hG hR hO hp
          have h17 : slotOf a 17 = .pointer (some ⟨(w.heap.size + 1), 1, none⟩) := hp.1
          have c0 := keep_cell n1 hG
          refine kY (v := vi oy) hG rfl ?_
          simp [slotOf] at h17
          simp [execOp, go_sem, h17, c0]
        · intro a W hG hR hO hp
          have h5 := hO.slot 5 (by kernel_rfl)
          refine kY (v := .pointer (some ⟨(w.heap.size + 1 + 1), 1, none⟩)) hG rfl ?_
          simp [slotOf] at h5
          simp [execOp, go_sem, h5]
        · intro a W hG hR hO hp
          have h19 : slotOf a 19 = .pointer (some ⟨(w.heap.size + 1 + 1), 1, none⟩) := hp.1
          have c0 := keep_cell m1 hG
          refine kY (v := vi my) hG rfl ?_
          simp [slotOf] at h19
          simp [execOp, go_sem, h19, c0]
        · intro a W hG hR hO hp
          have h18 : slotOf a 18 = vi oy := hp.1
          have h20 : slotOf a 20 = vi my := hp.2.1
          refine kY (v := vi (oy - my)) hG rfl ?_
          simp [slotOf] at h18 h20
          simp [execOp, go_sem, h18, h20, hw2]
        · intro a W hG hR hO hp
          have h21 : slotOf a 21 = vi (oy - my) := hp.1
          refine wp_enters (f := 106) (args := #[vi (oy - my)]) ?_ ((HA2.out W).mono ?_)
          · simp [slotOf] at h21
            simp [go_sem, h21]
          · rintro e w' ⟨rfl, rfl⟩
            exact ⟨_, rfl, _, rfl, rfl, Below.refl _ _, hG⟩
        · intro a W hG hR hO hp
          have h3 := hO.slot 3 (by kernel_rfl)
          refine kY (v := .pointer (some ⟨w.heap.size, 1, none⟩)) hG rfl ?_
          simp [slotOf] at h3
          simp [execOp, go_sem, h3]
        · intro a W hG hR hO hp
          have h23 : slotOf a 23 = .pointer (some ⟨w.heap.size, 1, none⟩) := hp.1
          have c0 := keep_cell x1 hG
          refine kY (v := vi y.s.strain) hG rfl ?_
          simp [slotOf] at h23
          simp [execOp, go_sem, h23, c0]
        · intro a W hG hR hO hp
          have h22 : slotOf a 22 = vi ay := hp.1
          have h24 : slotOf a 24 = vi y.s.strain := hp.2.1
          refine kY (v := .bool true) hG rfl ?_
          simp [slotOf] at h22 h24
          simp [execOp, go_sem, h22, h24, hq2]
        · intro a W hG hR hO hp
          have h16 : slotOf a 16 = .bool true := hp.1
          have h25 : slotOf a 25 = .bool true := hp.2.1
          refine kY (v := .bool true) hG rfl ?_
          simp [slotOf] at h16 h25
          simp [execOp, go_sem, h16, h25]
      · intro wz hG hR
        rintro _ rfl _ rfl _ rfl _ rfl _ rfl _ rfl _ rfl _ rfl _ rfl _ rfl _ rfl _ rfl _ rfl _ rfl _ rfl _ rfl _ rfl _ rfl _ rfl _ rfl
        change wpList _ _ _ _ _ _
        simp only [Act.put, List.setIfInBounds_toArray, List.set_cons_zero, List.set_cons_succ, List.drop_succ_cons, List.drop_zero]
        clear hR
        have H2 := Lib.hid (And.intro ((newer_trans H1.out.1 hG)) (And.intro ((H1.out.2.1.below hG H1.out.2.1.lt)) (And.intro ((H1.out.2.2.1.below hG H1.out.2.2.1.lt)) ((H1.out.2.2.2.below hG H1.out.2.2.2.lt)))))
        clear hG H1 x1 n0 n1 m0 m1
        go_wp2_with fail
        go_ret
        exact ⟨ret_bool (by rw [HNE.out, decide_eq_true hq1, decide_eq_true hq2, Bool.and_self]), H2.out.1⟩
    · refine wp_words (by kernel_rfl) (region_told_u 20 (by kernel_rfl) (by kernel_rfl) [false, false, false, false, false, false, false, false, false, false, false, false, false, false, false, false, false, false, false, false] (fun W => Below (((w.alloc (.cells (smC y) 26)).alloc (.cells #[vi ox, vi oy] 47)).alloc (.cells #[vi mx, vi my] 47)).heap.size (((w.alloc (.cells (smC y) 26)).alloc (.cells #[vi ox, vi oy] 47)).alloc (.cells #[vi mx, vi my] 47)) W) newer [vIs (.pointer (some ⟨(w.heap.size + 1), 0, none⟩)), vIs (vi ox), vIs (.pointer (some ⟨(w.heap.size + 1 + 1), 0, none⟩)), vIs (vi mx), vIs (vi (ox - mx)), vIs (vi ax), vIs (.pointer (some ⟨w.heap.size, 1, none⟩)), vIs (vi y.s.strain), vIs (.bool true), vIs (.bool true), vIs (.pointer (some ⟨(w.heap.size + 1), 1, none⟩)), vIs (vi oy), vIs (.pointer (some ⟨(w.heap.size + 1 + 1), 1, none⟩)), vIs (vi my), vIs (vi (oy - my)), vIs (vi ay), vIs (.pointer (some ⟨w.heap.size, 1, none⟩)), vIs (vi y.s.strain), vIs (.bool false), vIs (.bool false)] ⟨rfl, rfl, rfl, rfl, rfl, rfl, rfl, rfl, rfl, rfl, (fun v W h => by obtain rfl : v = _ := h; rfl), (fun v W h => by obtain rfl : v = _ := h; rfl), (fun v W h => by obtain rfl : v = _ := h; rfl), (fun v W h => by obtain rfl : v = _ := h; rfl), (fun v W h => by obtain rfl : v = _ := h; rfl), (fun v W h => by obtain rfl : v = _ := h; rfl), (fun v W h => by obtain rfl : v = _ := h; rfl), (fun v W h => by obtain rfl : v = _ := h; rfl), (fun v W h => by obtain rfl : v = _ := h; rfl), rfl, trivial⟩ ⟨(fun h => Bool.noConfusion (show false = true from h)), (fun h => Bool.noConfusion (show false = true from h)), (fun h => Bool.noConfusion (show false = true from h)), (fun h => Bool.noConfusion (show false = true from h)), (fun h => Bool.noConfusion (show false = true from h)), (fun h => Bool.noConfusion (show false = true from h)), (fun h => Bool.noConfusion (show false = true from h)), (fun h => Bool.noConfusion (show false = true from h)), (fun h => Bool.noConfusion (show false = true from h)), (fun h => Bool.noConfusion (show false = true from h)), (fun h => Bool.noConfusion (show false = true from h)), (fun h => Bool.noConfusion (show false = true from h)), (fun h => Bool.noConfusion (show false = true from h)), (fun h => Bool.noConfusion (show false = true from h)), (fun h => Bool.noConfusion (show false = true from h)), (fun h => Bool.noConfusion (show false = true from h)), (fun h => Bool.noConfusion (show false = true from h)), (fun h => Bool.noConfusion (show false = true from h)), (fun h => Bool.noConfusion (show false = true from h)), (fun h => Bool.noConfusion (show false = true from h)), trivial⟩ (fun h k => newer_trans h k) (pickD_stable _ ⟨vIs_st, vIs_st, vIs_st, vIs_st, vIs_st, vIs_st, vIs_st, vIs_st, vIs_st, vIs_st, vIs_st, vIs_st, vIs_st, vIs_st, vIs_st, vIs_st, vIs_st, vIs_st, vIs_st, vIs_st, trivial⟩) (Below.refl _ (((w.alloc (.cells (smC y) 26)).alloc (.cells #[vi ox, vi oy] 47)).alloc (.cells #[vi mx, vi my] 47))).drew (Below.refl _ _) ?_ ?_)
      · refine ⟨.inr ?_, .inr ?_, .inr ?_, .inr ?_, .inr ?_, .inr ?_, .inr ?_, .inr ?_, .inr ?_, .inr ?_, .inr ?_, .inr ?_, .inr ?_, .inr ?_, .inr ?_, .inr ?_, .inr ?_, .inr ?_, .inr ?_, .inr ?_, trivial⟩
        · intro a W hG hR hO hp
          have h4 := hO.slot 4 (by kernel_rfl)
          refine kY (v := .pointer (some ⟨(w.heap.size + 1), 0, none⟩)) hG rfl ?_
          simp [slotOf] at h4
          simp [execOp, go_sem, h4]
        · intro a W hG hR hO hp
          have h7 : slotOf a 7 = .pointer (some ⟨(w.heap.size + 1), 0, none⟩) := hp.1
          have c0 := keep_cell n0 hG
          refine kY (v := vi ox) hG rfl ?_
          simp [slotOf] at h7
          simp [execOp, go_sem, h7, c0]
        · intro a W hG hR hO hp
          have h5 := hO.slot 5 (by kernel_rfl)
          refine kY (v := .pointer (some ⟨(w.heap.size + 1 + 1), 0, none⟩)) hG rfl ?_
          simp [slotOf] at h5
          simp [execOp, go_sem, h5]
        · intro a W hG hR hO hp
          have h9 : slotOf a 9 = .pointer (some ⟨(w.heap.size + 1 + 1), 0, none⟩) := hp.1
          have c0 := keep_cell m0 hG
          refine kY (v := vi mx) hG rfl ?_
          simp [slotOf] at h9
          simp [execOp, go_sem, h9, c0]
        · intro a W hG hR hO hp
          have h8 : slotOf a 8 = vi ox := hp.1
          have h10 : slotOf a 10 = vi mx := hp.2.1
          refine kY (v := vi (ox - mx)) hG rfl ?_
          simp [slotOf] at h8 h10
          simp [execOp, go_sem, h8, h10, hw1]
        · intro a W hG hR hO hp
          have h11 : slotOf a 11 = vi (ox - mx) := hp.1
          refine wp_enters (f := 106) (args := #[vi (ox - mx)]) ?_ ((HA1.out W).mono ?_)
          · simp [slotOf] at h11
            simp [go_sem, h11]
          · rintro e w' ⟨rfl, rfl⟩
            exact ⟨_, rfl, _, rfl, rfl, Below.refl _ _, hG⟩
        · intro a W hG hR hO hp
          have h3 := hO.slot 3 (by kernel_rfl)
          refine kY (v := .pointer (some ⟨w.heap.size, 1, none⟩)) hG rfl ?_
          simp [slotOf] at h3
          simp [execOp, go_sem, h3]
        · intro a W hG hR hO hp
          have h13 : slotOf a 13 = .pointer (some ⟨w.heap.size, 1, none⟩) := hp.1
          have c0 := keep_cell x1 hG
          refine kY (v := vi y.s.strain) hG rfl ?_
          simp [slotOf] at h13
          simp [execOp, go_sem, h13, c0]
        · intro a W hG hR hO hp
          have h12 : slotOf a 12 = vi ax := hp.1
          have h14 : slotOf a 14 = vi y.s.strain := hp.2.1
          refine kY (v := .bool true) hG rfl ?_
          simp [slotOf] at h12 h14
          simp [execOp, go_sem, h12, h14, hq1]
        · exact fun a W hG _ _ hp => kM 15 rfl hp.1 rfl hG
        · intro a W hG hR hO hp
          have h4 := hO.slot 4 (by kernel_rfl)
          refine kY (v := .pointer (some ⟨(w.heap.size + 1), 1, none⟩)) hG rfl ?_
          simp [slotOf] at h4
          simp [execOp, go_sem, h4]
        · intro a W hG hR hO hp
          have h17 : slotOf a 17 = .pointer (some ⟨(w.heap.size + 1), 1, none⟩) := hp.1
          have c0 := keep_cell n1 hG
          refine kY (v := vi oy) hG rfl ?_
          simp [slotOf] at h17
          simp [execOp, go_sem, h17, c0]
        · intro a W hG hR hO hp
          have h5 := hO.slot 5 (by kernel_rfl)
          refine kY (v := .pointer (some ⟨(w.heap.size + 1 + 1), 1, none⟩)) hG rfl ?_
          simp [slotOf] at h5
          simp [execOp, go_sem, h5]
        · intro a W hG hR hO hp
          have h19 : slotOf a 19 = .pointer (some ⟨(w.heap.size + 1 + 1), 1, none⟩) := hp.1
          have c0 := keep_cell m1 hG
          refine kY (v := vi my) hG rfl ?_
          simp [slotOf] at h19
          simp [execOp, go_sem, h19, c0]
        · intro a W hG hR hO hp
          have h18 : slotOf a 18 = vi oy := hp.1
          have h20 : slotOf a 20 = vi my := hp.2.1
          refine kY (v := vi (oy - my)) hG rfl ?_
          simp [slotOf] at h18 h20
          simp [execOp, go_sem, h18, h20, hw2]
        · intro a W hG hR hO hp
          have h21 : slotOf a 21 = vi (oy - my) := hp.1
          refine wp_enters (f := 106) (args := #[vi (oy - my)]) ?_ ((HA2.out W).mono ?_)
          · simp [slotOf] at h21
            simp [go_sem, h21]
          · rintro e w' ⟨rfl, rfl⟩
            exact ⟨_, rfl, _, rfl, rfl, Below.refl _ _, hG⟩
        · intro a W hG hR hO hp
          have h3 := hO.slot 3 (by kernel_rfl)
          refine kY (v := .pointer (some ⟨w.heap.size, 1, none⟩)) hG rfl ?_
          simp [slotOf] at h3
          simp [execOp, go_sem, h3]
        · intro a W hG hR hO hp
          have h23 : slotOf a 23 = .pointer (some ⟨w.heap.size, 1, none⟩) := hp.1
          have c0 := keep_cell x1 hG
          refine kY (v := vi y.s.strain) hG rfl ?_
          simp [slotOf] at h23
          simp [execOp, go_sem, h23, c0]
        · intro a W hG hR hO hp
          have h22 : slotOf a 22 = vi ay := hp.1
          have h24 : slotOf a 24 = vi y.s.strain := hp.2.1
          refine kY (v := .bool false) hG rfl ?_
          simp [slotOf] at h22 h24
          simp [execOp, go_sem, h22, h24, hq2]
        · intro a W hG hR hO hp
          have h16 : slotOf a 16 = .bool true := hp.1
          have h25 : slotOf a 25 = .bool false := hp.2.1
          refine kY (v := .bool false) hG rfl ?_
          simp [slotOf] at h16 h25
          simp [execOp, go_sem, h16, h25]
      · intro wz hG hR
        rintro _ rfl _ rfl _ rfl _ rfl _ rfl _ rfl _ rfl _ rfl _ rfl _ rfl _ rfl _ rfl _ rfl _ rfl _ rfl _ rfl _ rfl _ rfl _ rfl _ rfl
        change wpList _ _ _ _ _ _
        simp only [Act.put, List.setIfInBounds_toArray, List.set_cons_zero, List.set_cons_succ, List.drop_succ_cons, List.drop_zero]
        clear hR
        have H3 := Lib.hid (And.intro ((newer_trans H1.out.1 hG)) (And.intro ((H1.out.2.1.below hG H1.out.2.1.lt)) (And.intro ((H1.out.2.2.1.below hG H1.out.2.2.1.lt)) ((H1.out.2.2.2.below hG H1.out.2.2.2.lt)))))
        clear hG H1 x1 n0 n1 m0 m1
        go_wp2_with fail
        go_ret
        exact ⟨ret_bool (by rw [HNE.out, decide_eq_false (Int.not_le.2 hq2), Bool.and_false]), H3.out.1⟩
  · refine wp_words (by kernel_rfl) (region_told_u 20 (by kernel_rfl) (by kernel_rfl) [false, false, false, false, false, false, false, false, false, false, true, true, true, true, true, true, true, true, true, false] (fun W => Below (((w.alloc (.cells (smC y) 26)).alloc (.cells #[vi ox, vi oy] 47)).alloc (.cells #[vi mx, vi my] 47)).heap.size (((w.alloc (.cells (smC y) 26)).alloc (.cells #[vi ox, vi oy] 47)).alloc (.cells #[vi mx, vi my] 47)) W) newer [vIs (.pointer (some ⟨(w.heap.size + 1), 0, none⟩)), vIs (vi ox), vIs (.pointer (some ⟨(w.heap.size + 1 + 1), 0, none⟩)), vIs (vi mx), vIs (vi (ox - mx)), vIs (vi ax), vIs (.pointer (some ⟨w.heap.size, 1, none⟩)), vIs (vi y.s.strain), vIs (.bool false), vIs (.bool false), vIs (undef), vIs (undef), vIs (undef), vIs (undef), vIs (undef), vIs (undef), vIs (undef), vIs (undef), vIs (undef), vIs (.bool false)] ⟨rfl, rfl, rfl, rfl, rfl, rfl, rfl, rfl, rfl, rfl, (fun v W h => by obtain rfl : v = _ := h; simp), (fun v W h => by obtain rfl : v = _ := h; simp), (fun v W h => by obtain rfl : v = _ := h; simp), (fun v W h => by obtain rfl : v = _ := h; simp), (fun v W h => by obtain rfl : v = _ := h; simp), (fun v W h => by obtain rfl : v = _ := h; simp), (fun v W h => by obtain rfl : v = _ := h; simp), (fun v W h => by obtain rfl : v = _ := h; simp), (fun v W h => by obtain rfl : v = _ := h; simp), rfl, trivial⟩ ⟨(fun h => Bool.noConfusion (show false = true from h)), (fun h => Bool.noConfusion (show false = true from h)), (fun h => Bool.noConfusion (show false = true from h)), (fun h => Bool.noConfusion (show false = true from h)), (fun h => Bool.noConfusion (show false = true from h)), (fun h => Bool.noConfusion (show false = true from h)), (fun h => Bool.noConfusion (show false = true from h)), (fun h => Bool.noConfusion (show false = true from h)), (fun h => Bool.noConfusion (show false = true from h)), (fun h => Bool.noConfusion (show false = true from h)), (fun _ _ => rfl), (fun _ _ => rfl), (fun _ _ => rfl), (fun _ _ => rfl), (fun _ _ => rfl), (fun _ _ => rfl), (fun _ _ => rfl), (fun _ _ => rfl), (fun _ _ => rfl), (fun h => Bool.noConfusion (show false = true from h)), trivial⟩ (fun h k => newer_trans h k) (pickD_stable _ ⟨vIs_st, vIs_st, vIs_st, vIs_st, vIs_st, vIs_st, vIs_st, vIs_st, vIs_st, vIs_st, vIs_st, vIs_st, vIs_st, vIs_st, vIs_st, vIs_st, vIs_st, vIs_st, vIs_st, vIs_st, trivial⟩) (Below.refl _ (((w.alloc (.cells (smC y) 26)).alloc (.cells #[vi ox, vi oy] 47)).alloc (.cells #[vi mx, vi my] 47))).drew (Below.refl _ _) ?_ ?_)
    · refine ⟨.inr ?_, .inr ?_, .inr ?_, .inr ?_, .inr ?_, .inr ?_, .inr ?_, .inr ?_, .inr ?_, .inr ?_, .inl rfl, .inl rfl, .inl rfl, .inl rfl, .inl rfl, .inl rfl, .inl rfl, .inl rfl, .inl rfl, .inr ?_, trivial⟩
      · intro a W hG hR hO hp
        have h4 := hO.slot 4 (by kernel_rfl)
        refine kY (v := .pointer (some ⟨(w.heap.size + 1), 0, none⟩)) hG rfl ?_
        simp [slotOf] at h4
        simp [execOp, go_sem, h4]
      · intro a W hG hR hO hp
        have h7 : slotOf a 7 = .pointer (some ⟨(w.heap.size + 1), 0, none⟩) := hp.1
        have c0 := keep_cell n0 hG
        refine kY (v := vi ox) hG rfl ?_
        simp [slotOf] at h7
        simp [execOp, go_sem, h7, c0]
      · intro a W hG hR hO hp
        have h5 := hO.slot 5 (by kernel_rfl)
        refine kY (v := .pointer (some ⟨(w.heap.size + 1 + 1), 0, none⟩)) hG rfl ?_
        simp [slotOf] at h5
        simp [execOp, go_sem, h5]
      · intro a W hG hR hO hp
        have h9 : slotOf a 9 = .pointer (some ⟨(w.heap.size + 1 + 1), 0, none⟩) := hp.1
        have c0 := keep_cell m0 hG
        refine kY (v := vi mx) hG rfl ?_
        simp [slotOf] at h9
        simp [execOp, go_sem, h9, c0]
      · intro a W hG hR hO hp
        have h8 : slotOf a 8 = vi ox := hp.1
        have h10 : slotOf a 10 = vi mx := hp.2.1
        refine kY (v := vi (ox - mx)) hG rfl ?_
        simp [slotOf] at h8 h10
        simp [execOp, go_sem, h8, h10, hw1]
      · intro a W hG hR hO hp
        have h11 : slotOf a 11 = vi (ox - mx) := hp.1
        refine wp_enters (f := 106) (args := #[vi (ox - mx)]) ?_ ((HA1.out W).mono ?_)
        · simp [slotOf] at h11
          simp [go_sem, h11]
        · rintro e w' ⟨rfl, rfl⟩
          exact ⟨_, rfl, _, rfl, rfl, Below.refl _ _, hG⟩
      · intro a W hG hR hO hp
        have h3 := hO.slot 3 (by kernel_rfl)
        refine kY (v := .pointer (some ⟨w.heap.size, 1, none⟩)) hG rfl ?_
        simp [slotOf] at h3
        simp [execOp, go_sem, h3]
      · intro a W hG hR hO hp
        have h13 : slotOf a 13 = .pointer (some ⟨w.heap.size, 1, none⟩) := hp.1
        have c0 := keep_cell x1 hG
        refine kY (v := vi y.s.strain) hG rfl ?_
        simp [slotOf] at h13
        simp [execOp, go_sem, h13, c0]
      · intro a W hG hR hO hp
        have h12 : slotOf a 12 = vi ax := hp.1
        have h14 : slotOf a 14 = vi y.s.strain := hp.2.1
        refine kY (v := .bool false) hG rfl ?_
        simp [slotOf] at h12 h14
        simp [execOp, go_sem, h12, h14, hq1]
      · exact fun a W hG _ _ hp => kM 15 rfl hp.1 rfl hG
      · intro a W hG hR hO hp
        have h16 : slotOf a 16 = .bool false := hp.1
        have h25 : slotOf a 25 = undef := hp.2.1
        refine kY (v := .bool false) hG rfl ?_
        simp [slotOf] at h16 h25
        simp [execOp, go_sem, h16, h25]
    · intro wz hG hR
      rintro _ rfl _ rfl _ rfl _ rfl _ rfl _ rfl _ rfl _ rfl _ rfl _ rfl _ rfl _ rfl _ rfl _ rfl _ rfl _ rfl _ rfl _ rfl _ rfl _ rfl
      change wpList _ _ _ _ _ _
      simp only [Act.put, List.setIfInBounds_toArray, List.set_cons_zero, List.set_cons_succ, List.drop_succ_cons, List.drop_zero]
      clear hR
      have H4 := Lib.hid (And.intro ((newer_trans H1.out.1 hG)) (And.intro ((H1.out.2.1.below hG H1.out.2.1.lt)) (And.intro ((H1.out.2.2.1.below hG H1.out.2.2.1.lt)) ((H1.out.2.2.2.below hG H1.out.2.2.2.lt)))))
      clear hG H1 x1 n0 n1 m0 m1
      go_wp2_with fail
      go_ret
      exact ⟨ret_bool (by rw [HNE.out, decide_eq_false (Int.not_le.2 hq1), Bool.false_and]), H4.out.1⟩

end Go.Proofs.Ytpmafnifgegfbaa
