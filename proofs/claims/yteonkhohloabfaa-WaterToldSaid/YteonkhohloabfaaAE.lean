/- The document's first examples hold: wakes returns true. -/
import Derived.Test.YteonkhohloabfaaAD
import Derived.Test.YteonkhohloabfaaL3
import Derived.Test.YteonkhohloabfaaP
import Derived.Test.YteonkhohloabfaaY
namespace Go.Proofs.Yteonkhohloabfaa
open Go.RowKit

/-- What Levels leaves of the example. -/
structure WkA (q1 q2 g0 g1 g2 : Nat) (W : World) : Prop where
  a : W.cell? ⟨q1, 0, none⟩ = some (.slice (some ⟨g0, 0, none⟩) 2 2) ∧ W.cell? ⟨q1, 1, none⟩ = some (.slice (some ⟨g1, 0, none⟩) 2 2) ∧ W.cell? ⟨q1, 2, none⟩ = some (.slice (some ⟨g2, 0, none⟩) 2 2)
  s : W.cell? ⟨q2, 0, none⟩ = some (vi 30) ∧ W.cell? ⟨q2, 1, none⟩ = some (vi 50) ∧ W.cell? ⟨q2, 2, none⟩ = some (vi 10) ∧ W.cell? ⟨q2, 3, none⟩ = some (vi 30) ∧ W.cell? ⟨q2, 4, none⟩ = some (vi 6) ∧ W.cell? ⟨q2, 5, none⟩ = some (vi 26)
  r0 : W.cell? ⟨g0, 0, none⟩ = some (vi 90) ∧ W.cell? ⟨g0, 1, none⟩ = some (vi 106) ∧ W.cell? ⟨g0, 2, none⟩ = some (vi 35) ∧ W.cell? ⟨g0, 3, none⟩ = some (vi 39)
  r1 : W.cell? ⟨g1, 0, none⟩ = some (vi 112) ∧ W.cell? ⟨g1, 1, none⟩ = some (vi 143) ∧ W.cell? ⟨g1, 2, none⟩ = some (vi 51) ∧ W.cell? ⟨g1, 3, none⟩ = some (vi 74)
  r2 : W.cell? ⟨g2, 0, none⟩ = some (vi 102) ∧ W.cell? ⟨g2, 1, none⟩ = some (vi 133) ∧ W.cell? ⟨g2, 2, none⟩ = some (vi 35) ∧ W.cell? ⟨g2, 3, none⟩ = some (vi 58)
theorem WkA.newer {q1 q2 g0 g1 g2 : Nat} {W W' : World} (h : WkA q1 q2 g0 g1 g2 W) (hb : newer W W') : WkA q1 q2 g0 g1 g2 W' := by
  obtain ⟨⟨a1, a2, a3⟩, ⟨b1, b2, b3, b4, b5, b6⟩, ⟨c1, c2, c3, c4⟩, ⟨d1, d2, d3, d4⟩, ⟨e1, e2, e3, e4⟩⟩ := h
  exact ⟨⟨keep_cell a1 hb, keep_cell a2 hb, keep_cell a3 hb⟩, ⟨keep_cell b1 hb, keep_cell b2 hb, keep_cell b3 hb, keep_cell b4 hb, keep_cell b5 hb, keep_cell b6 hb⟩, ⟨keep_cell c1 hb, keep_cell c2 hb, keep_cell c3 hb, keep_cell c4 hb⟩, ⟨keep_cell d1 hb, keep_cell d2 hb, keep_cell d3 hb, keep_cell d4 hb⟩, ⟨keep_cell e1 hb, keep_cell e2 hb, keep_cell e3 hb, keep_cell e4 hb⟩⟩
theorem row_cell {W : World} {g n : Nat} {lo hi : Nat → Int} (h : Whole W g 36 (rowCs n lo hi)) {i : Nat} (hi' : i < n) : W.cell? ⟨g, i * 2, none⟩ = some (vi (lo i)) ∧ W.cell? ⟨g, i * 2 + 1, none⟩ = some (vi (hi i)) :=
  ⟨h.at _ (rowCs_lo lo hi hi'), h.at _ (rowCs_hi lo hi hi')⟩
theorem wkA_of {W : World} {base q1 c1 q2 c2 : Nat} {gb : Nat → Nat} (h : Tab W base bankG.cells.length (.slice (some ⟨q1, 0, none⟩) marchD.length c1) (.slice (some ⟨q2, 0, none⟩) marchD.length c2) gb marchD.length (fun j i => (stE false bankG marchD (j + 1)).f i) (fun j i => (stE true bankG marchD (j + 1)).f i) (fun j => (stE false bankG marchD (j + 1)).snow) (fun j => (stE true bankG marchD (j + 1)).snow)) : WkA q1 q2 (gb 0) (gb 1) (gb 2) W := by
  obtain ⟨⟨l1, l2⟩, ⟨l3, l4⟩, ⟨l5, l6⟩⟩ := bank_lo
  obtain ⟨⟨k1, k2⟩, ⟨k3, k4⟩, ⟨k5, k6⟩⟩ := bank_hi
  obtain ⟨⟨m1, m2⟩, ⟨m3, m4⟩, ⟨m5, m6⟩⟩ := bank_snow
  have t0 := h.at2 (k := 0) (by decide)
  have t1 := h.at2 (k := 1) (by decide)
  have t2 := h.at2 (k := 2) (by decide)
  have a0 := row_cell (h.rows 0 (by decide)) (i := 0) (by decide)
  have a1 := row_cell (h.rows 0 (by decide)) (i := 1) (by decide)
  have b0 := row_cell (h.rows 1 (by decide)) (i := 0) (by decide)
  have b1 := row_cell (h.rows 1 (by decide)) (i := 1) (by decide)
  have d0 := row_cell (h.rows 2 (by decide)) (i := 0) (by decide)
  have d1 := row_cell (h.rows 2 (by decide)) (i := 1) (by decide)
  simp only [Nat.zero_add, Nat.reduceAdd, l1, l2, l3, l4, l5, l6, k1, k2, k3, k4, k5, k6, m1, m2, m3, m4, m5, m6] at t0 t1 t2 a0 a1 b0 b1 d0 d1
  exact ⟨⟨h.at1 (k := 0) (by decide), h.at1 (k := 1) (by decide), h.at1 (k := 2) (by decide)⟩, ⟨t0.1, t0.2, t1.1, t1.2, t2.1, t2.2⟩, ⟨a0.1, a0.2, a1.1, a1.2⟩, ⟨b0.1, b0.2, b1.1, b1.2⟩, ⟨d0.1, d0.2, d1.1, d1.2⟩⟩

set_option maxRecDepth 100000 in
set_option maxHeartbeats 2000000 in
theorem wakes_any (w : World) : Calls Try.prog 17 #[] w fun e w' => e = .returned (.bool true) ∧ Below w.heap.size w w' := by
  go_enter Try.func17, Try.ntmps17
  go_wp2_with fail
  refine (bank_any _).mono ?_
  rintro e w1 ⟨bb, rfl, hr1, hb1⟩
  go_wp2_with fail
  refine (march_any _).mono ?_
  rintro e w2 ⟨db, rfl, hr2, hb2⟩
  have HL := Lib.hid (levels_ok bankG (some ⟨bb, 0, none⟩) 2 marchD (some ⟨db, 0, none⟩) 3 w2 (by decide) (by decide) ((hr1.below hb2).more hb2.size) hr2 bank_fault (by decide))
  have hB2 := below_next hb1 hb2
  clear hb1 hb2 hr1 hr2
  go_wp2_with fail
  refine (HL.out).mono ?_
  rintro e w3 ⟨v1, v2, gb, base, rfl, _, htab, hb3⟩
  obtain ⟨q1, c1, rfl⟩ := htab.form1 (by decide)
  obtain ⟨q2, c2, rfl⟩ := htab.form2 (by decide)
  have H3 : Hid (WkA q1 q2 (gb 0) (gb 1) (gb 2) w3 ∧ Below w.heap.size w w3) := ⟨wkA_of htab, below_next hB2 hb3⟩
  clear htab hb3 hB2 HL
  generalize gb 0 = g0 at H3
  generalize gb 1 = g1 at H3
  generalize gb 2 = g2 at H3
  have hm3 : marchD.length = 3 := rfl
  rw [hm3]
  clear hm3
  go_wp2_with fail
  refine (span_any _ _ _).mono ?_
  rintro e w4 ⟨rfl, hb4⟩
  go_wp2_with fail
  refine (span_any _ _ _).mono ?_
  rintro e w5 ⟨rfl, hb5⟩
  have hb5 := below_next hb4 hb5
  clear hb4
  go_wp2_with fail
  refine (span_any _ _ _).mono ?_
  rintro e w6 ⟨rfl, hb6⟩
  have hb6 := below_next hb5 hb6
  clear hb5
  go_wp2_with fail
  refine (span_any _ _ _).mono ?_
  rintro e w7 ⟨rfl, hb7⟩
  have hb7 := below_next hb6 hb7
  clear hb6
  go_wp2_with fail
  refine (span_any _ _ _).mono ?_
  rintro e w8 ⟨rfl, hb8⟩
  have hb8 := below_next hb7 hb8
  clear hb7
  go_wp2_with fail
  refine (span_any _ _ _).mono ?_
  rintro e w9 ⟨rfl, hb9⟩
  have hb9 := below_next hb8 hb9
  clear hb8
  have H9 : Hid (WkA q1 q2 g0 g1 g2 w9 ∧ Below w.heap.size w w9) := ⟨(H3.out.1).newer hb9, below_next H3.out.2 hb9⟩
  clear hb9 H3
  go_wp2_with fail
  have hw9 : Whole (w9.alloc (.cells #[vi 90, vi 106, vi 35, vi 39, vi 112, vi 143, vi 51, vi 74, vi 102, vi 133, vi 35, vi 58] 105)) w9.heap.size 105 #[vi 90, vi 106, vi 35, vi 39, vi 112, vi 143, vi 51, vi 74, vi 102, vi 133, vi 35, vi 58] := Whole.made _ _ _
  have HX : Hid (WkA q1 q2 g0 g1 g2 (w9.alloc (.cells #[vi 90, vi 106, vi 35, vi 39, vi 112, vi 143, vi 51, vi 74, vi 102, vi 133, vi 35, vi 58] 105)) ∧ Below w.heap.size w (w9.alloc (.cells #[vi 90, vi 106, vi 35, vi 39, vi 112, vi 143, vi 51, vi 74, vi 102, vi 133, vi 35, vi 58] 105)) ∧ Whole (w9.alloc (.cells #[vi 90, vi 106, vi 35, vi 39, vi 112, vi 143, vi 51, vi 74, vi 102, vi 133, vi 35, vi 58] 105)) w9.heap.size 105 #[vi 90, vi 106, vi 35, vi 39, vi 112, vi 143, vi 51, vi 74, vi 102, vi 133, vi 35, vi 58]) :=
    ⟨(H9.out.1).newer ((Below.refl _ _).alloc (Nat.le_refl _) _), (H9.out.2).alloc H9.out.2.size _, hw9⟩
  clear hw9 H9
  go_loopw [5] (fun s5 wr => ∃ k : Nat, k ≤ 3 ∧ s5 = .int .i64 k ∧ (WkA q1 q2 g0 g1 g2 wr ∧ Below w.heap.size w wr ∧ Whole wr w9.heap.size 105 #[vi 90, vi 106, vi 35, vi 39, vi 112, vi 143, vi 51, vi 74, vi 102, vi 133, vi 35, vi 58])) (fun s5 _ => 3 - (intOf s5).toNat)
  case atStart => exact ⟨0, Nat.zero_le _, rfl, HX.out⟩
  case round =>
    obtain ⟨k, hk, rfl, hx⟩ := hrel
    clear HX
    have HX := Lib.hid hx
    obtain ⟨hA, hb, hW⟩ := hx
    have hk4 : k = 0 ∨ k = 1 ∨ k = 2 ∨ k = 3 := by omega
    rcases hk4 with rfl | rfl | rfl | rfl
    · obtain ⟨c0, c1, c2, c3⟩ := hA.r0
      have ca := hA.a.1
      have e0 := hW.at 0 rfl
      have e1 := hW.at 1 rfl
      have e2 := hW.at 2 rfl
      have e3 := hW.at 3 rfl
      clear hA hb hW
      go_wp2_with fail
      go_quiet (fail)
      go_wp2_with fail
      go_roundw
      case rel => exact ⟨0 + 1, by omega, by go_num, (HX.out.1).newer (newer_drewN _ _), below_next HX.out.2.1 (newer_drewN _ _), (HX.out.2.2).below (newer_drewN _ _) (HX.out.2.2).lt⟩
      case measure => simp [intOf]
    · obtain ⟨c0, c1, c2, c3⟩ := hA.r1
      have ca := hA.a.2.1
      have e0 := hW.at 4 rfl
      have e1 := hW.at 5 rfl
      have e2 := hW.at 6 rfl
      have e3 := hW.at 7 rfl
      clear hA hb hW
      go_wp2_with fail
      go_quiet (fail)
      go_wp2_with fail
      go_roundw
      case rel => exact ⟨1 + 1, by omega, by go_num, (HX.out.1).newer (newer_drewN _ _), below_next HX.out.2.1 (newer_drewN _ _), (HX.out.2.2).below (newer_drewN _ _) (HX.out.2.2).lt⟩
      case measure => simp [intOf]
    · obtain ⟨c0, c1, c2, c3⟩ := hA.r2
      have ca := hA.a.2.2
      have e0 := hW.at 8 rfl
      have e1 := hW.at 9 rfl
      have e2 := hW.at 10 rfl
      have e3 := hW.at 11 rfl
      clear hA hb hW
      go_wp2_with fail
      go_quiet (fail)
      go_wp2_with fail
      go_roundw
      case rel => exact ⟨2 + 1, by omega, by go_num, (HX.out.1).newer (newer_drewN _ _), below_next HX.out.2.1 (newer_drewN _ _), (HX.out.2.2).below (newer_drewN _ _) (HX.out.2.2).lt⟩
      case measure => simp [intOf]
    · clear hA hb hW
      go_wp2_with fail
      refine (bank_any _).mono ?_
      rintro e y1 ⟨bb2, rfl, hr1, hb1⟩
      go_wp2_with fail
      refine (march_any _).mono ?_
      rintro e y2 ⟨db2, rfl, hr2, hb2⟩
      have HL := Lib.hid (least_ok bankG (some ⟨bb2, 0, none⟩) 2 marchD (some ⟨db2, 0, none⟩) 3 1 70 y2 (by decide) (by decide) ((hr1.below hb2).more hb2.size) hr2 bank_asked)
      have hB2 := below_next hb1 hb2
      clear hb1 hb2 hr1 hr2
      go_wp2_with fail
      refine (HL.out).mono ?_
      rintro e wv ⟨n, hh, rfl, hb3⟩
      obtain rfl := bank_least hh
      rw [if_neg (by omega)]
      have HY : Hid (WkA q1 q2 g0 g1 g2 wv ∧ Below w.heap.size w wv) := ⟨(HX.out.1).newer (below_next hB2 hb3), below_next HX.out.2.1 (below_next hB2 hb3)⟩
      clear hh hb3 hB2 HL HX
      go_wp2_with fail
      obtain ⟨s0, s1, s2, s3, s4, s5⟩ := (HY.out.1).s
      refine wp_words (by kernel_rfl) (region_told_g 27 (by kernel_rfl) (by kernel_rfl) (fun W => Below wv.heap.size wv W) newer (pickD [vIs (.slice (some ⟨q2, 0, none⟩) 3 c2), vIs (.pointer (some ⟨q2, 0, none⟩)), vIs (.agg #[vi 30, vi 50]), vIs (.agg #[vi 30, vi 50]), vIs (.bool true), vIs (.bool true), vIs (.slice (some ⟨q2, 0, none⟩) 3 c2), vIs (.pointer (some ⟨q2, 2, none⟩)), vIs (.agg #[vi 10, vi 30]), vIs (.agg #[vi 10, vi 30]), vIs (.bool true), vIs (.bool true), vIs (.bool true), vIs (.slice (some ⟨q2, 0, none⟩) 3 c2), vIs (.pointer (some ⟨q2, 4, none⟩)), vIs (.agg #[vi 6, vi 26]), vIs (.agg #[vi 6, vi 26]), vIs (.bool true), vIs (.bool true), vIs (.bool true), vIs (.int .i64 0), vIs (.bool true), vIs (.bool true), vIs (.bool true), vIs (.int .i64 15), vIs (.bool true), vIs (.bool true)]) ⟨trivial, trivial, trivial, trivial, trivial, trivial, (fun _ _ h => h), (fun _ _ h => h), (fun _ _ h => h), (fun _ _ h => h), (fun _ _ h => h), trivial, trivial, (fun _ _ h => h), (fun _ _ h => h), (fun _ _ h => h), (fun _ _ h => h), (fun _ _ h => h), trivial, trivial, (fun _ _ h => h), (fun _ _ h => h), trivial, trivial, (fun _ _ h => h), (fun _ _ h => h), trivial, trivial⟩ (fun h k => newer_trans h k) (pickD_stable _ ⟨vIs_st, vIs_st, vIs_st, vIs_st, vIs_st, vIs_st, vIs_st, vIs_st, vIs_st, vIs_st, vIs_st, vIs_st, vIs_st, vIs_st, vIs_st, vIs_st, vIs_st, vIs_st, vIs_st, vIs_st, vIs_st, vIs_st, vIs_st, vIs_st, vIs_st, vIs_st, vIs_st, trivial⟩) (Below.refl _ wv).drew (Below.refl _ _) ?_ ?_)
      · refine ⟨?_, ?_, ?_, ?_, ?_, ?_, ?_, ?_, ?_, ?_, ?_, ?_, ?_, ?_, ?_, ?_, ?_, ?_, ?_, ?_, ?_, ?_, ?_, ?_, ?_, ?_, ?_, trivial⟩
        · intro a W hG hR hO hp
          have h2 := hO.slot 2 (by kernel_rfl)
          refine wp_yields (v := .slice (some ⟨q2, 0, none⟩) 3 c2) ?_ ⟨_, rfl, rfl, Below.refl _ _, hG⟩
          simp [slotOf] at h2
          simp [execOp, go_sem, h2]
        · intro a W hG hR hO hp
          have h79 : slotOf a 79 = .slice (some ⟨q2, 0, none⟩) 3 c2 := hp.1
          refine wp_yields (v := .pointer (some ⟨q2, 0, none⟩)) ?_ ⟨_, rfl, rfl, Below.refl _ _, hG⟩
          simp [slotOf] at h79
          simp [execOp, go_sem, h79]
        · intro a W hG hR hO hp
          have h80 : slotOf a 80 = .pointer (some ⟨q2, 0, none⟩) := hp.1
          have c0 := keep_cell s0 hG
          have c1 := keep_cell s1 hG
          refine wp_yields (v := .agg #[vi 30, vi 50]) ?_ ⟨_, rfl, rfl, Below.refl _ _, hG⟩
          simp [slotOf] at h80
          simp [execOp, go_sem, h80, c0, c1]
        · intro a W hG hR hO hp
          refine wp_enters (f := 50) (args := #[.int .i64 30, .int .i64 50]) ?_ ((span_any 30 50 W).mono ?_)
          · skip
            simp [go_sem]
          · rintro e w' ⟨rfl, hb⟩
            exact ⟨_, rfl, _, rfl, rfl, hb, below_next hG hb⟩
        · intro a W hG hR hO hp
          have h81 : slotOf a 81 = .agg #[vi 30, vi 50] := hp.1
          have h82 : slotOf a 82 = .agg #[vi 30, vi 50] := hp.2.1
          refine wp_yields (v := .bool true) ?_ ⟨_, rfl, rfl, Below.refl _ _, hG⟩
          simp [slotOf] at h81 h82
          simp [execOp, go_sem, h81, h82]
        · intro a W hG hR hO hp
          have h83 : slotOf a 83 = .bool true := hp.1
          refine wp_yields (v := .bool true) ?_ ⟨_, rfl, rfl, Below.refl _ _, hG⟩
          simp [slotOf] at h83
          simp [execOp, go_sem, h83]
        · intro a W hG hR hO hp
          have h2 := hO.slot 2 (by kernel_rfl)
          refine wp_yields (v := .slice (some ⟨q2, 0, none⟩) 3 c2) ?_ ⟨_, rfl, rfl, Below.refl _ _, hG⟩
          simp [slotOf] at h2
          simp [execOp, go_sem, h2]
        · intro a W hG hR hO hp
          have h85 : slotOf a 85 = .slice (some ⟨q2, 0, none⟩) 3 c2 := hp.1
          refine wp_yields (v := .pointer (some ⟨q2, 2, none⟩)) ?_ ⟨_, rfl, rfl, Below.refl _ _, hG⟩
          simp [slotOf] at h85
          simp [execOp, go_sem, h85]
        · intro a W hG hR hO hp
          have h86 : slotOf a 86 = .pointer (some ⟨q2, 2, none⟩) := hp.1
          have c0 := keep_cell s2 hG
          have c1 := keep_cell s3 hG
          refine wp_yields (v := .agg #[vi 10, vi 30]) ?_ ⟨_, rfl, rfl, Below.refl _ _, hG⟩
          simp [slotOf] at h86
          simp [execOp, go_sem, h86, c0, c1]
        · intro a W hG hR hO hp
          refine wp_enters (f := 50) (args := #[.int .i64 10, .int .i64 30]) ?_ ((span_any 10 30 W).mono ?_)
          · skip
            simp [go_sem]
          · rintro e w' ⟨rfl, hb⟩
            exact ⟨_, rfl, _, rfl, rfl, hb, below_next hG hb⟩
        · intro a W hG hR hO hp
          have h87 : slotOf a 87 = .agg #[vi 10, vi 30] := hp.1
          have h88 : slotOf a 88 = .agg #[vi 10, vi 30] := hp.2.1
          refine wp_yields (v := .bool true) ?_ ⟨_, rfl, rfl, Below.refl _ _, hG⟩
          simp [slotOf] at h87 h88
          simp [execOp, go_sem, h87, h88]
        · intro a W hG hR hO hp
          have h84 : slotOf a 84 = .bool true := hp.1
          have h89 : slotOf a 89 = .bool true := hp.2.1
          refine wp_yields (v := .bool true) ?_ ⟨_, rfl, rfl, Below.refl _ _, hG⟩
          simp [slotOf] at h84 h89
          simp [execOp, go_sem, h84, h89]
        · intro a W hG hR hO hp
          have h90 : slotOf a 90 = .bool true := hp.1
          refine wp_yields (v := .bool true) ?_ ⟨_, rfl, rfl, Below.refl _ _, hG⟩
          simp [slotOf] at h90
          simp [execOp, go_sem, h90]
        · intro a W hG hR hO hp
          have h2 := hO.slot 2 (by kernel_rfl)
          refine wp_yields (v := .slice (some ⟨q2, 0, none⟩) 3 c2) ?_ ⟨_, rfl, rfl, Below.refl _ _, hG⟩
          simp [slotOf] at h2
          simp [execOp, go_sem, h2]
        · intro a W hG hR hO hp
          have h92 : slotOf a 92 = .slice (some ⟨q2, 0, none⟩) 3 c2 := hp.1
          refine wp_yields (v := .pointer (some ⟨q2, 4, none⟩)) ?_ ⟨_, rfl, rfl, Below.refl _ _, hG⟩
          simp [slotOf] at h92
          simp [execOp, go_sem, h92]
        · intro a W hG hR hO hp
          have h93 : slotOf a 93 = .pointer (some ⟨q2, 4, none⟩) := hp.1
          have c0 := keep_cell s4 hG
          have c1 := keep_cell s5 hG
          refine wp_yields (v := .agg #[vi 6, vi 26]) ?_ ⟨_, rfl, rfl, Below.refl _ _, hG⟩
          simp [slotOf] at h93
          simp [execOp, go_sem, h93, c0, c1]
        · intro a W hG hR hO hp
          refine wp_enters (f := 50) (args := #[.int .i64 6, .int .i64 26]) ?_ ((span_any 6 26 W).mono ?_)
          · skip
            simp [go_sem]
          · rintro e w' ⟨rfl, hb⟩
            exact ⟨_, rfl, _, rfl, rfl, hb, below_next hG hb⟩
        · intro a W hG hR hO hp
          have h94 : slotOf a 94 = .agg #[vi 6, vi 26] := hp.1
          have h95 : slotOf a 95 = .agg #[vi 6, vi 26] := hp.2.1
          refine wp_yields (v := .bool true) ?_ ⟨_, rfl, rfl, Below.refl _ _, hG⟩
          simp [slotOf] at h94 h95
          simp [execOp, go_sem, h94, h95]
        · intro a W hG hR hO hp
          have h91 : slotOf a 91 = .bool true := hp.1
          have h96 : slotOf a 96 = .bool true := hp.2.1
          refine wp_yields (v := .bool true) ?_ ⟨_, rfl, rfl, Below.refl _ _, hG⟩
          simp [slotOf] at h91 h96
          simp [execOp, go_sem, h91, h96]
        · intro a W hG hR hO hp
          have h97 : slotOf a 97 = .bool true := hp.1
          refine wp_yields (v := .bool true) ?_ ⟨_, rfl, rfl, Below.refl _ _, hG⟩
          simp [slotOf] at h97
          simp [execOp, go_sem, h97]
        · intro a W hG hR hO hp
          have h7 := hO.slot 7 (by kernel_rfl)
          refine wp_yields (v := .int .i64 0) ?_ ⟨_, rfl, rfl, Below.refl _ _, hG⟩
          simp [slotOf] at h7
          simp [execOp, go_sem, h7]
        · intro a W hG hR hO hp
          have h99 : slotOf a 99 = .int .i64 0 := hp.1
          refine wp_yields (v := .bool true) ?_ ⟨_, rfl, rfl, Below.refl _ _, hG⟩
          simp [slotOf] at h99
          simp [execOp, go_sem, h99]
        · intro a W hG hR hO hp
          have h98 : slotOf a 98 = .bool true := hp.1
          have h100 : slotOf a 100 = .bool true := hp.2.1
          refine wp_yields (v := .bool true) ?_ ⟨_, rfl, rfl, Below.refl _ _, hG⟩
          simp [slotOf] at h98 h100
          simp [execOp, go_sem, h98, h100]
        · intro a W hG hR hO hp
          have h101 : slotOf a 101 = .bool true := hp.1
          refine wp_yields (v := .bool true) ?_ ⟨_, rfl, rfl, Below.refl _ _, hG⟩
          simp [slotOf] at h101
          simp [execOp, go_sem, h101]
        · intro a W hG hR hO hp
          have h6 := hO.slot 6 (by kernel_rfl)
          refine wp_yields (v := .int .i64 15) ?_ ⟨_, rfl, rfl, Below.refl _ _, hG⟩
          simp [slotOf] at h6
          simp [execOp, go_sem, h6]
        · intro a W hG hR hO hp
          have h103 : slotOf a 103 = .int .i64 15 := hp.1
          refine wp_yields (v := .bool true) ?_ ⟨_, rfl, rfl, Below.refl _ _, hG⟩
          simp [slotOf] at h103
          simp [execOp, go_sem, h103]
        · intro a W hG hR hO hp
          have h102 : slotOf a 102 = .bool true := hp.1
          have h104 : slotOf a 104 = .bool true := hp.2.1
          refine wp_yields (v := .bool true) ?_ ⟨_, rfl, rfl, Below.refl _ _, hG⟩
          simp [slotOf] at h102 h104
          simp [execOp, go_sem, h102, h104]
      · intro W hG hR
        rintro _ rfl _ rfl _ rfl _ rfl _ rfl _ rfl _ rfl _ rfl _ rfl _ rfl _ rfl _ rfl _ rfl _ rfl _ rfl _ rfl _ rfl _ rfl _ rfl _ rfl _ rfl _ rfl _ rfl _ rfl _ rfl _ rfl _ rfl
        change wpList _ _ _ _ _ _
        simp only [Act.put, List.setIfInBounds_toArray, List.set_cons_zero, List.set_cons_succ, List.drop_succ_cons, List.drop_zero]
        have HZ := Lib.hid (below_next HY.out.2 hG)
        clear hG hR HY s0 s1 s2 s3 s4 s5
        go_wp2_with fail
        go_ret
        exact ⟨rfl, HZ.out⟩
end Go.Proofs.Yteonkhohloabfaa
