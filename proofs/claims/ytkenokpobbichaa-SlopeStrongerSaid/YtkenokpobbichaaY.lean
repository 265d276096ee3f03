/- The document's first examples. -/
import Derived.Test.YtkenokpobbichaaY0
namespace Go.Proofs.Ytkenokpobbichaa
open Go.RowKit Go.Shelf Go.Deep

theorem exec_eq31 {o : Oper} {a : Act} {W : World} {x y : Operand} {lo hi : Int} (ho : o.op = .binOp .eql 31 x y 31) (hx : a.eval x = .agg #[vi lo, vi hi]) (hy : a.eval y = .agg #[vi lo, vi hi]) : (execOp a.eval o).run Try.prog W = .ok (.value (.bool true)) W := by
  unfold execOp
  rw [ho]
  dsimp only
  rw [hx, hy]
  simp [go_sem]
/-- The examples' answers, in any world. -/
theorem val_span_any (q c0 c1 c2 ub cc : Nat) (w : World) {B : Nat} (h : VM B q c0 c1 c2 w) (hu : Whole w ub 3 #[vi 0, vi 0]) : Calls Try.prog 18 #[smV (valM q c0 c1 c2), .agg #[vi 0, .slice (some ⟨ub, 0, none⟩) 2 cc]] w fun e w' => e = .returned (.tuple #[.agg #[vi 785, vi 1200], vi 0]) ∧ newer w w' := by
  have h1 := span_any (valM q c0 c1 c2) ⟨0, [0, 0], some ⟨ub, 0, none⟩, cc⟩ w h.ok (valM_few _ _ _ _) (row_of_whole (enc := intL) (s := 1) (fun _ => rfl) hu rfl) (by simp)
  have e : spanV (valM q c0 c1 c2).sd 0 [0, 0] = .tuple #[.agg #[vi 785, vi 1200], vi 0] := by
    rw [VM.sd]
    unfold spanV
    obtain ⟨e1, e2, e3, e4⟩ := val_span
    rw [if_pos e1, e2, if_neg (by decide), e3, e4]
  rw [e] at h1
  exact h1
theorem worst_says (s : Sm) (w : World) (hok : SmOk s w) (few : SmFew s) {k : Nat} {l : List Nat} {v : Int} (hv : slopeB s.sd = true) (hw : worstS s.sd = some ((k, l), v)) : Calls Try.prog 25 #[smV s] w fun e w' => ∃ A c, e = .returned (.tuple #[.agg #[vi k, .slice A l.length c], vi v, vi 0]) ∧ w'.ownsRow w.heap.size 3 1 (.slice A l.length c) l.length (l.map fun x : Nat => vi x) ∧ newer w w' := by
  refine (worst_any s w hok few).mono ?_
  rintro e w' ⟨h1, h2⟩
  unfold worstOut at h1
  rw [hv, hw] at h1
  obtain ⟨A, c, h3, h4⟩ := h1
  exact ⟨A, c, h3, h4, h2⟩
theorem val_worst_any (q c0 c1 c2 : Nat) (w : World) {B : Nat} (h : VM B q c0 c1 c2 w) : Calls Try.prog 25 #[smV (valM q c0 c1 c2)] w fun e w' => ∃ A c, e = .returned (.tuple #[.agg #[vi 0, .slice A 2 c], vi 755, vi 0]) ∧ Row intL 1 w' w'.heap.size A [0, 1] ∧ newer w w' := by
  refine (worst_says (valM q c0 c1 c2) w h.ok (valM_few _ _ _ _) (k := 0) (l := [0, 1]) (v := 755) val_ok val_worst).mono ?_
  rintro e w' ⟨A, c, h3, h4, h2⟩
  exact ⟨A, c, h3, row_of_own (enc := intL) (size := 1) (l := [0, 1]) (by omega) (fun _ => rfl) h4, h2⟩
theorem val_margin_any (q c0 c1 c2 : Nat) (w : World) {B : Nat} (h : VM B q c0 c1 c2 w) : Calls Try.prog 31 #[smV (valM q c0 c1 c2), vi 700] w fun e w' => e = .returned (.tuple #[vi 70, vi 0]) ∧ newer w w' := by
  have h1 := margin_any (valM q c0 c1 c2) 700 w h.ok (valM_few _ _ _ _)
  have e : marginOut (valM q c0 c1 c2).sd 700 = .tuple #[vi 70, vi 0] := by
    rw [VM.sd]
    unfold marginOut
    rw [if_pos val_enough, val_margin]
    rfl
  rw [e] at h1
  exact h1
theorem val_moves_any (q c0 c1 c2 : Nat) (w : World) {B : Nat} (h : VM B q c0 c1 c2 w) : Calls Try.prog 35 #[smV (valM q c0 c1 c2), vi 1300] w fun e w' => ∃ A c D d, e = .returned (.tuple #[.slice A 2 c, .slice D 3 d, vi 0]) ∧ Row intL 1 w' w'.heap.size A [0, 1] ∧ Row intL 1 w' w'.heap.size D [0, 1, 2] ∧ newer w w' := by
  refine (moves35_any (valM q c0 c1 c2) 1300 w h.ok (valM_few _ _ _ _)).mono ?_
  rintro e w' ⟨h1, h2⟩
  unfold movesOut at h1
  rw [VM.sd, val_moves.1, val_moves.2.1, val_moves.2.2] at h1
  obtain ⟨A, c, D, d, h3, h4, h5⟩ := h1
  exact ⟨A, c, D, d, h3, row_of_own (enc := intL) (size := 1) (l := [0, 1]) (by omega) (fun _ => rfl) h4, row_of_own (enc := intL) (size := 1) (l := [0, 1, 2]) (by omega) (fun _ => rfl) h5, h2⟩
set_option maxRecDepth 100000 in
set_option maxHeartbeats 8000000 in
theorem wakes_any (w : World) : Calls Try.prog 17 #[] w fun e w' => e = .returned (.bool true) ∧ newer w w' := by
  go_enter Try.func17, Try.ntmps17
  go_wp2_with fail
  refine (valley_any w).mono ?_
  rintro e w1 ⟨q1, a1, b1, c1, rfl, hv1, hb1⟩
  have e2 := newer_allocH w1 (.cells #[vi 0, vi 0] 3)
  have HV1 := Lib.hid (And.intro (hv1.next e2) (And.intro (Whole.made w1 3 #[vi 0, vi 0]) (newer_trans hb1 e2)))
  clear hv1 hb1 e2
  go_wp2_with fail
  refine (from0_any _ _ _ _).mono ?_
  rintro e w2 ⟨rfl, hb⟩
  have HV2 := Lib.hid (And.intro (HV1.out.1.next hb) (And.intro (HV1.out.2.1.below hb HV1.out.2.1.lt) (newer_trans HV1.out.2.2 hb)))
  clear hb HV1
  go_wp2_with fail
  refine (val_span_any q1 a1 b1 c1 _ _ w2 HV2.out.1 HV2.out.2.1).mono ?_
  rintro e w3 ⟨rfl, hb⟩
  have e4 := newer_allocH w3 (.cells #[vi 785, vi 1200] 31)
  have H3 := Lib.hid (And.intro (newer_trans (newer_trans HV2.out.2.2 hb) e4) (Whole.made w3 31 #[vi 785, vi 1200]))
  clear hb HV2 e4
  go_wp2_with fail
  obtain ⟨qb, hqb⟩ : ∃ qb, qb = w3.heap.size := ⟨_, rfl⟩
  rw [← hqb] at H3 ⊢
  clear hqb
  refine (valley_any _).mono ?_
  rintro e w4 ⟨q2, a2, b2, c2, rfl, hv, hb⟩
  have H4 := Lib.hid (And.intro (newer_trans H3.out.1 hb) (And.intro (H3.out.2.below hb H3.out.2.lt) hv))
  clear hv hb H3
  go_wp2_with fail
  refine (val_worst_any q2 a2 b2 c2 w4 H4.out.2.2).mono ?_
  rintro e w5 ⟨A1, d1, rfl, hr, hb⟩
  have e6 := newer_allocH w5 (.cells #[vi 0, .slice A1 2 d1] 39)
  have H5 := Lib.hid (And.intro (newer_trans (newer_trans H4.out.1 hb) e6) (And.intro ((H4.out.2.1.below hb H4.out.2.1.lt).below e6 ((H4.out.2.1.below hb H4.out.2.1.lt).lt)) (And.intro (Whole.made w5 39 #[vi 0, .slice A1 2 d1]) ((hr.below e6).more e6.size))))
  clear hb hr e6 H4
  go_wp2_with fail
  obtain ⟨ub, hub⟩ : ∃ ub, ub = w5.heap.size := ⟨_, rfl⟩
  rw [← hub] at H5 ⊢
  clear hub
  refine (valley_any _).mono ?_
  rintro e w6 ⟨q3, a3, b3, c3, rfl, hv, hb⟩
  have H6 := Lib.hid (And.intro (newer_trans H5.out.1 hb) (And.intro (H5.out.2.1.below hb H5.out.2.1.lt) (And.intro (H5.out.2.2.1.below hb H5.out.2.2.1.lt) (And.intro ((H5.out.2.2.2.below hb).more hb.size) hv))))
  clear hv hb H5
  go_wp2_with fail
  refine (val_margin_any q3 a3 b3 c3 w6 H6.out.2.2.2.2).mono ?_
  rintro e w7 ⟨rfl, hb⟩
  have H7 := Lib.hid (And.intro (newer_trans H6.out.1 hb) (And.intro (H6.out.2.1.below hb H6.out.2.1.lt) (And.intro (H6.out.2.2.1.below hb H6.out.2.2.1.lt) ((H6.out.2.2.2.1.below hb).more hb.size))))
  clear hb H6
  go_wp2_with fail
  refine (valley_any _).mono ?_
  rintro e w8 ⟨q4, a4, b4, c4, rfl, hv, hb⟩
  have H8 := Lib.hid (And.intro (newer_trans H7.out.1 hb) (And.intro (H7.out.2.1.below hb H7.out.2.1.lt) (And.intro (H7.out.2.2.1.below hb H7.out.2.2.1.lt) (And.intro ((H7.out.2.2.2.below hb).more hb.size) hv))))
  clear hv hb H7
  go_wp2_with fail
  refine (val_moves_any q4 a4 b4 c4 w8 H8.out.2.2.2.2).mono ?_
  rintro e w9 ⟨A2, d2, A3, d3, rfl, hr2, hr3, hb⟩
  have H9 := Lib.hid (And.intro (newer_trans H8.out.1 hb) (And.intro (H8.out.2.1.below hb H8.out.2.1.lt) (H8.out.2.2.1.below hb H8.out.2.2.1.lt)))
  have HR := Lib.hid (And.intro ((H8.out.2.2.2.1.below hb).more hb.size) (And.intro hr2 hr3))
  clear hb hr2 hr3 H8
  have q0 := H9.out.2.1.at 0 (v := vi 785) rfl
  have q1 := H9.out.2.1.at 1 (v := vi 1200) rfl
  have u0 := H9.out.2.2.at 0 (v := vi 0) rfl
  have u1 := H9.out.2.2.at 1 (v := .slice A1 2 d1) rfl
  go_upto_region 5 with fail
  refine wp_words (by kernel_rfl) (region_told_g 48 (by kernel_rfl) (by kernel_rfl) (fun W => Below w9.heap.size w9 W) newer (pickD [vIs (vi 0), vIs (.bool true), vIs (.bool true), vIs (vi 0), vIs (.bool true), vIs (.bool true), vIs (.bool true), vIs (vi 0), vIs (.bool true), vIs (.bool true), vIs (.bool true), vIs (vi 0), vIs (.bool true), vIs (.bool true), vIs (.bool true), vIs (.agg #[vi 785, vi 1200]), vIs (.agg #[vi 785, vi 1200]), vIs (.bool true), vIs (.bool true), vIs (.bool true), vIs (.pointer (some ⟨ub, 0, none⟩)), vIs (vi 0), vIs (.bool true), vIs (.bool true), vIs (.bool true), vIs (.pointer (some ⟨ub, 1, none⟩)), vIs (.slice A1 2 d1), vArr w9.heap.size 2 #[vi 0, vi 1], vIs (.bool true), vIs (.bool true), vIs (.bool true), vIs (vi 755), vIs (.bool true), vIs (.bool true), vIs (.bool true), vIs (vi 70), vIs (.bool true), vIs (.bool true), vIs (.bool true), vIs (.slice A2 2 d2), vArr w9.heap.size 2 #[vi 0, vi 1], vIs (.bool true), vIs (.bool true), vIs (.bool true), vIs (.slice A3 3 d3), vArr w9.heap.size 3 #[vi 0, vi 1, vi 2], vIs (.bool true), vIs (.bool true)]) ⟨trivial, trivial, trivial, (fun _ _ h => h), (fun _ _ h => h), trivial, trivial, (fun _ _ h => h), (fun _ _ h => h), trivial, trivial, (fun _ _ h => h), (fun _ _ h => h), trivial, trivial, (fun _ _ h => h), (fun _ _ h => h), (fun _ _ h => h), trivial, trivial, (fun _ _ h => h), (fun _ _ h => h), (fun _ _ h => h), trivial, trivial, (fun _ _ h => h), (fun _ _ h => h), (fun _ _ h => h), (fun _ _ h => h), trivial, trivial, (fun _ _ h => h), (fun _ _ h => h), trivial, trivial, (fun _ _ h => h), (fun _ _ h => h), trivial, trivial, (fun _ _ h => h), (fun _ _ h => h), (fun _ _ h => h), trivial, trivial, (fun _ _ h => h), (fun _ _ h => h), (fun _ _ h => h), trivial, trivial⟩ (fun h k => newer_trans h k) (pickD_stable _ ⟨vIs_st, vIs_st, vIs_st, vIs_st, vIs_st, vIs_st, vIs_st, vIs_st, vIs_st, vIs_st, vIs_st, vIs_st, vIs_st, vIs_st, vIs_st, vIs_st, vIs_st, vIs_st, vIs_st, vIs_st, vIs_st, vIs_st, vIs_st, vIs_st, vIs_st, vIs_st, vIs_st, vArr_st, vIs_st, vIs_st, vIs_st, vIs_st, vIs_st, vIs_st, vIs_st, vIs_st, vIs_st, vIs_st, vIs_st, vIs_st, vArr_st, vIs_st, vIs_st, vIs_st, vIs_st, vArr_st, vIs_st, vIs_st, trivial⟩) (Below.refl _ w9).drew (Below.refl _ _) ?_ ?_)
  · refine ⟨?_, ?_, ?_, ?_, ?_, ?_, ?_, ?_, ?_, ?_, ?_, ?_, ?_, ?_, ?_, ?_, ?_, ?_, ?_, ?_, ?_, ?_, ?_, ?_, ?_, ?_, ?_, ?_, ?_, ?_, ?_, ?_, ?_, ?_, ?_, ?_, ?_, ?_, ?_, ?_, ?_, ?_, ?_, ?_, ?_, ?_, ?_, ?_, trivial⟩
    · intro a W hG hR hO hp
      have h2 := hO.slot 2 (by kernel_rfl)
      refine wp_yields (v := vi 0) ?_ ⟨_, rfl, rfl, Below.refl _ _, hG⟩
      simp [slotOf] at h2
      simp [execOp, go_sem, h2]
    · intro a W hG hR hO hp
      have h35 : slotOf a 35 = vi 0 := hp.1
      refine wp_yields (v := .bool true) ?_ ⟨_, rfl, rfl, Below.refl _ _, hG⟩
      simp [slotOf] at h35
      simp [execOp, go_sem, h35]
    · intro a W hG hR hO hp
      have h36 : slotOf a 36 = .bool true := hp.1
      refine wp_yields (v := .bool true) ?_ ⟨_, rfl, rfl, Below.refl _ _, hG⟩
      simp [slotOf] at h36
      simp [execOp, go_sem, h36]
    · intro a W hG hR hO hp
      have h5 := hO.slot 5 (by kernel_rfl)
      refine wp_yields (v := vi 0) ?_ ⟨_, rfl, rfl, Below.refl _ _, hG⟩
      simp [slotOf] at h5
      simp [execOp, go_sem, h5]
    · intro a W hG hR hO hp
      have h38 : slotOf a 38 = vi 0 := hp.1
      refine wp_yields (v := .bool true) ?_ ⟨_, rfl, rfl, Below.refl _ _, hG⟩
      simp [slotOf] at h38
      simp [execOp, go_sem, h38]
    · intro a W hG hR hO hp
      have h37 : slotOf a 37 = .bool true := hp.1
      have h39 : slotOf a 39 = .bool true := hp.2.1
      refine wp_yields (v := .bool true) ?_ ⟨_, rfl, rfl, Below.refl _ _, hG⟩
      simp [slotOf] at h37 h39
      simp [execOp, go_sem, h37, h39]
    · intro a W hG hR hO hp
      have h40 : slotOf a 40 = .bool true := hp.1
      refine wp_yields (v := .bool true) ?_ ⟨_, rfl, rfl, Below.refl _ _, hG⟩
      simp [slotOf] at h40
      simp [execOp, go_sem, h40]
    · intro a W hG hR hO hp
      have h7 := hO.slot 7 (by kernel_rfl)
      refine wp_yields (v := vi 0) ?_ ⟨_, rfl, rfl, Below.refl _ _, hG⟩
      simp [slotOf] at h7
      simp [execOp, go_sem, h7]
    · intro a W hG hR hO hp
      have h42 : slotOf a 42 = vi 0 := hp.1
      refine wp_yields (v := .bool true) ?_ ⟨_, rfl, rfl, Below.refl _ _, hG⟩
      simp [slotOf] at h42
      simp [execOp, go_sem, h42]
    · intro a W hG hR hO hp
      have h41 : slotOf a 41 = .bool true := hp.1
      have h43 : slotOf a 43 = .bool true := hp.2.1
      refine wp_yields (v := .bool true) ?_ ⟨_, rfl, rfl, Below.refl _ _, hG⟩
      simp [slotOf] at h41 h43
      simp [execOp, go_sem, h41, h43]
    · intro a W hG hR hO hp
      have h44 : slotOf a 44 = .bool true := hp.1
      refine wp_yields (v := .bool true) ?_ ⟨_, rfl, rfl, Below.refl _ _, hG⟩
      simp [slotOf] at h44
      simp [execOp, go_sem, h44]
    · intro a W hG hR hO hp
      have h10 := hO.slot 10 (by kernel_rfl)
      refine wp_yields (v := vi 0) ?_ ⟨_, rfl, rfl, Below.refl _ _, hG⟩
      simp [slotOf] at h10
      simp [execOp, go_sem, h10]
    · intro a W hG hR hO hp
      have h46 : slotOf a 46 = vi 0 := hp.1
      refine wp_yields (v := .bool true) ?_ ⟨_, rfl, rfl, Below.refl _ _, hG⟩
      simp [slotOf] at h46
      simp [execOp, go_sem, h46]
    · intro a W hG hR hO hp
      have h45 : slotOf a 45 = .bool true := hp.1
      have h47 : slotOf a 47 = .bool true := hp.2.1
      refine wp_yields (v := .bool true) ?_ ⟨_, rfl, rfl, Below.refl _ _, hG⟩
      simp [slotOf] at h45 h47
      simp [execOp, go_sem, h45, h47]
    · intro a W hG hR hO hp
      have h48 : slotOf a 48 = .bool true := hp.1
      refine wp_yields (v := .bool true) ?_ ⟨_, rfl, rfl, Below.refl _ _, hG⟩
      simp [slotOf] at h48
      simp [execOp, go_sem, h48]
    · intro a W hG hR hO hp
      have h1 := hO.slot 1 (by kernel_rfl)
      have c0 := keep_cell q0 hG
      have c1 := keep_cell q1 hG
      refine wp_yields (v := .agg #[vi 785, vi 1200]) ?_ ⟨_, rfl, rfl, Below.refl _ _, hG⟩
      simp [slotOf] at h1
      simp [execOp, go_sem, h1, c0, c1]
    · intro a W hG hR hO hp
      refine wp_enters (f := 56) (args := #[vi 785, vi 1200]) ?_ ((span56_any 785 1200 W).mono ?_)
      · skip
        simp [go_sem]
      · rintro e w' ⟨rfl, hb⟩
        exact ⟨_, rfl, _, rfl, rfl, hb, below_next hG hb⟩
    · intro a W hG hR hO hp
      have h50 : slotOf a 50 = .agg #[vi 785, vi 1200] := hp.1
      have h51 : slotOf a 51 = .agg #[vi 785, vi 1200] := hp.2.1
      refine wp_yields (v := .bool true) ?_ ⟨_, rfl, rfl, Below.refl _ _, hG⟩
      exact exec_eq31 rfl ((eval_slot a 50).trans h50) ((eval_slot a 51).trans h51)
    · intro a W hG hR hO hp
      have h49 : slotOf a 49 = .bool true := hp.1
      have h52 : slotOf a 52 = .bool true := hp.2.1
      refine wp_yields (v := .bool true) ?_ ⟨_, rfl, rfl, Below.refl _ _, hG⟩
      simp [slotOf] at h49 h52
      simp [execOp, go_sem, h49, h52]
    · intro a W hG hR hO hp
      have h53 : slotOf a 53 = .bool true := hp.1
      refine wp_yields (v := .bool true) ?_ ⟨_, rfl, rfl, Below.refl _ _, hG⟩
      simp [slotOf] at h53
      simp [execOp, go_sem, h53]
    · intro a W hG hR hO hp
      have h3 := hO.slot 3 (by kernel_rfl)
      refine wp_yields (v := .pointer (some ⟨ub, 0, none⟩)) ?_ ⟨_, rfl, rfl, Below.refl _ _, hG⟩
      simp [slotOf] at h3
      simp [execOp, go_sem, h3]
    · intro a W hG hR hO hp
      have h55 : slotOf a 55 = .pointer (some ⟨ub, 0, none⟩) := hp.1
      have c0 := keep_cell u0 hG
      refine wp_yields (v := vi 0) ?_ ⟨_, rfl, rfl, Below.refl _ _, hG⟩
      simp [slotOf] at h55
      simp [execOp, go_sem, h55, c0]
    · intro a W hG hR hO hp
      have h56 : slotOf a 56 = vi 0 := hp.1
      refine wp_yields (v := .bool true) ?_ ⟨_, rfl, rfl, Below.refl _ _, hG⟩
      simp [slotOf] at h56
      simp [execOp, go_sem, h56]
    · intro a W hG hR hO hp
      have h54 : slotOf a 54 = .bool true := hp.1
      have h57 : slotOf a 57 = .bool true := hp.2.1
      refine wp_yields (v := .bool true) ?_ ⟨_, rfl, rfl, Below.refl _ _, hG⟩
      simp [slotOf] at h54 h57
      simp [execOp, go_sem, h54, h57]
    · intro a W hG hR hO hp
      have h58 : slotOf a 58 = .bool true := hp.1
      refine wp_yields (v := .bool true) ?_ ⟨_, rfl, rfl, Below.refl _ _, hG⟩
      simp [slotOf] at h58
      simp [execOp, go_sem, h58]
    · intro a W hG hR hO hp
      have h3 := hO.slot 3 (by kernel_rfl)
      refine wp_yields (v := .pointer (some ⟨ub, 1, none⟩)) ?_ ⟨_, rfl, rfl, Below.refl _ _, hG⟩
      simp [slotOf] at h3
      simp [execOp, go_sem, h3]
    · intro a W hG hR hO hp
      have h60 : slotOf a 60 = .pointer (some ⟨ub, 1, none⟩) := hp.1
      have c0 := keep_cell u1 hG
      refine wp_yields (v := .slice A1 2 d1) ?_ ⟨_, rfl, rfl, Below.refl _ _, hG⟩
      simp [slotOf] at h60
      simp [execOp, go_sem, h60, c0]
    · intro a W hG hR hO hp
      refine wp_makes (v := .slice (some ⟨W.heap.size, 0, none⟩) 2 2) (W' := W.alloc (.cells #[vi 0, vi 1] 3)) ?_ ⟨_, rfl, ⟨_, rfl, hG.size, Whole.made _ _ _⟩, newer_allocH _ _, hG.alloc hG.size _⟩
      simp [execOp, go_sem]
    · intro a W hG hR hO hp
      have h61 : slotOf a 61 = .slice A1 2 d1 := hp.1
      have h62 := hp.2.1
      obtain ⟨nb, h62, hnb, hW⟩ := h62
      refine wp_enters (f := 36) (args := #[.slice A1 2 d1, .slice (some ⟨nb, 0, none⟩) 2 2]) ?_ ((lawInts [0, 1] [0, 1] A1 (some ⟨nb, 0, none⟩) d1 2 W (by simp) (by simp) ((HR.out.1.below hG).more hG.size) (row_of_whole (enc := intL) (s := 1) (fun _ => rfl) hW rfl)).mono ?_)
      · simp [slotOf] at h61 h62
        simp [go_sem, h61, h62]
      · rintro e w' ⟨rfl, hb⟩
        exact ⟨_, rfl, _, rfl, rfl, hb, below_next hG hb⟩
    · intro a W hG hR hO hp
      have h59 : slotOf a 59 = .bool true := hp.1
      have h63 : slotOf a 63 = .bool true := hp.2.1
      refine wp_yields (v := .bool true) ?_ ⟨_, rfl, rfl, Below.refl _ _, hG⟩
      simp [slotOf] at h59 h63
      simp [execOp, go_sem, h59, h63]
    · intro a W hG hR hO hp
      have h64 : slotOf a 64 = .bool true := hp.1
      refine wp_yields (v := .bool true) ?_ ⟨_, rfl, rfl, Below.refl _ _, hG⟩
      simp [slotOf] at h64
      simp [execOp, go_sem, h64]
    · intro a W hG hR hO hp
      have h4 := hO.slot 4 (by kernel_rfl)
      refine wp_yields (v := vi 755) ?_ ⟨_, rfl, rfl, Below.refl _ _, hG⟩
      simp [slotOf] at h4
      simp [execOp, go_sem, h4]
    · intro a W hG hR hO hp
      have h66 : slotOf a 66 = vi 755 := hp.1
      refine wp_yields (v := .bool true) ?_ ⟨_, rfl, rfl, Below.refl _ _, hG⟩
      simp [slotOf] at h66
      simp [execOp, go_sem, h66]
    · intro a W hG hR hO hp
      have h65 : slotOf a 65 = .bool true := hp.1
      have h67 : slotOf a 67 = .bool true := hp.2.1
      refine wp_yields (v := .bool true) ?_ ⟨_, rfl, rfl, Below.refl _ _, hG⟩
      simp [slotOf] at h65 h67
      simp [execOp, go_sem, h65, h67]
    · intro a W hG hR hO hp
      have h68 : slotOf a 68 = .bool true := hp.1
      refine wp_yields (v := .bool true) ?_ ⟨_, rfl, rfl, Below.refl _ _, hG⟩
      simp [slotOf] at h68
      simp [execOp, go_sem, h68]
    · intro a W hG hR hO hp
      have h6 := hO.slot 6 (by kernel_rfl)
      refine wp_yields (v := vi 70) ?_ ⟨_, rfl, rfl, Below.refl _ _, hG⟩
      simp [slotOf] at h6
      simp [execOp, go_sem, h6]
    · intro a W hG hR hO hp
      have h70 : slotOf a 70 = vi 70 := hp.1
      refine wp_yields (v := .bool true) ?_ ⟨_, rfl, rfl, Below.refl _ _, hG⟩
      simp [slotOf] at h70
      simp [execOp, go_sem, h70]
    · intro a W hG hR hO hp
      have h69 : slotOf a 69 = .bool true := hp.1
      have h71 : slotOf a 71 = .bool true := hp.2.1
      refine wp_yields (v := .bool true) ?_ ⟨_, rfl, rfl, Below.refl _ _, hG⟩
      simp [slotOf] at h69 h71
      simp [execOp, go_sem, h69, h71]
    · intro a W hG hR hO hp
      have h72 : slotOf a 72 = .bool true := hp.1
      refine wp_yields (v := .bool true) ?_ ⟨_, rfl, rfl, Below.refl _ _, hG⟩
      simp [slotOf] at h72
      simp [execOp, go_sem, h72]
    · intro a W hG hR hO hp
      have h8 := hO.slot 8 (by kernel_rfl)
      refine wp_yields (v := .slice A2 2 d2) ?_ ⟨_, rfl, rfl, Below.refl _ _, hG⟩
      simp [slotOf] at h8
      simp [execOp, go_sem, h8]
    · intro a W hG hR hO hp
      refine wp_makes (v := .slice (some ⟨W.heap.size, 0, none⟩) 2 2) (W' := W.alloc (.cells #[vi 0, vi 1] 3)) ?_ ⟨_, rfl, ⟨_, rfl, hG.size, Whole.made _ _ _⟩, newer_allocH _ _, hG.alloc hG.size _⟩
      simp [execOp, go_sem]
    · intro a W hG hR hO hp
      have h74 : slotOf a 74 = .slice A2 2 d2 := hp.1
      have h75 := hp.2.1
      obtain ⟨nb, h75, hnb, hW⟩ := h75
      refine wp_enters (f := 36) (args := #[.slice A2 2 d2, .slice (some ⟨nb, 0, none⟩) 2 2]) ?_ ((lawInts [0, 1] [0, 1] A2 (some ⟨nb, 0, none⟩) d2 2 W (by simp) (by simp) ((HR.out.2.1.below hG).more hG.size) (row_of_whole (enc := intL) (s := 1) (fun _ => rfl) hW rfl)).mono ?_)
      · simp [slotOf] at h74 h75
        simp [go_sem, h74, h75]
      · rintro e w' ⟨rfl, hb⟩
        exact ⟨_, rfl, _, rfl, rfl, hb, below_next hG hb⟩
    · intro a W hG hR hO hp
      have h73 : slotOf a 73 = .bool true := hp.1
      have h76 : slotOf a 76 = .bool true := hp.2.1
      refine wp_yields (v := .bool true) ?_ ⟨_, rfl, rfl, Below.refl _ _, hG⟩
      simp [slotOf] at h73 h76
      simp [execOp, go_sem, h73, h76]
    · intro a W hG hR hO hp
      have h77 : slotOf a 77 = .bool true := hp.1
      refine wp_yields (v := .bool true) ?_ ⟨_, rfl, rfl, Below.refl _ _, hG⟩
      simp [slotOf] at h77
      simp [execOp, go_sem, h77]
    · intro a W hG hR hO hp
      have h9 := hO.slot 9 (by kernel_rfl)
      refine wp_yields (v := .slice A3 3 d3) ?_ ⟨_, rfl, rfl, Below.refl _ _, hG⟩
      simp [slotOf] at h9
      simp [execOp, go_sem, h9]
    · intro a W hG hR hO hp
      refine wp_makes (v := .slice (some ⟨W.heap.size, 0, none⟩) 3 3) (W' := W.alloc (.cells #[vi 0, vi 1, vi 2] 3)) ?_ ⟨_, rfl, ⟨_, rfl, hG.size, Whole.made _ _ _⟩, newer_allocH _ _, hG.alloc hG.size _⟩
      simp [execOp, go_sem]
    · intro a W hG hR hO hp
      have h79 : slotOf a 79 = .slice A3 3 d3 := hp.1
      have h80 := hp.2.1
      obtain ⟨nb, h80, hnb, hW⟩ := h80
      refine wp_enters (f := 36) (args := #[.slice A3 3 d3, .slice (some ⟨nb, 0, none⟩) 3 3]) ?_ ((lawInts [0, 1, 2] [0, 1, 2] A3 (some ⟨nb, 0, none⟩) d3 3 W (by simp) (by simp) ((HR.out.2.2.below hG).more hG.size) (row_of_whole (enc := intL) (s := 1) (fun _ => rfl) hW rfl)).mono ?_)
      · simp [slotOf] at h79 h80
        simp [go_sem, h79, h80]
      · rintro e w' ⟨rfl, hb⟩
        exact ⟨_, rfl, _, rfl, rfl, hb, below_next hG hb⟩
    · intro a W hG hR hO hp
      have h78 : slotOf a 78 = .bool true := hp.1
      have h81 : slotOf a 81 = .bool true := hp.2.1
      refine wp_yields (v := .bool true) ?_ ⟨_, rfl, rfl, Below.refl _ _, hG⟩
      simp [slotOf] at h78 h81
      simp [execOp, go_sem, h78, h81]
  · intro wz hG hR
    rintro _ rfl _ rfl _ rfl _ rfl _ rfl _ rfl _ rfl _ rfl _ rfl _ rfl _ rfl _ rfl _ rfl _ rfl _ rfl _ rfl _ rfl _ rfl _ rfl _ rfl _ rfl _ rfl _ rfl _ rfl _ rfl _ rfl _ rfl _ hv62 _ rfl _ rfl _ rfl _ rfl _ rfl _ rfl _ rfl _ rfl _ rfl _ rfl _ rfl _ rfl _ hv75 _ rfl _ rfl _ rfl _ rfl _ hv80 _ rfl _ rfl
    change wpList _ _ _ _ _ _
    simp only [Act.put, List.setIfInBounds_toArray, List.set_cons_zero, List.set_cons_succ, List.drop_succ_cons, List.drop_zero]
    have HE := Lib.hid (newer_trans H9.out.1 hG)
    clear hG hR q0 q1 u0 u1
    go_wp2_with fail
    go_ret
    exact ⟨rfl, HE.out⟩

end Go.Proofs.Ytkenokpobbichaa
