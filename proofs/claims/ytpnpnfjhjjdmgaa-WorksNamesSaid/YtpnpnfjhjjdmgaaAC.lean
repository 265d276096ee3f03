/- The document's first examples. -/
import Derived.Test.YtpnpnfjhjjdmgaaAB
namespace Go.Proofs.Ytpnpnfjhjjdmgaa
open Go.RowKit Go.Deep

theorem ridge_fault : faultN ridgeP = 0 := by decide +kernel
theorem ridge_adds : addsE ridgeP [0, 1, 1, -1] 0 1 = 0 ∧ togN false 0 1 ridgeP.works [0, 1, 1, -1] = 95 ∧ togN true 0 1 ridgeP.works [0, 1, 1, -1] = 124 := by decide +kernel
theorem ridge_miss : checkN ridgeP [-1, 2, 1, -1] = 0 ∧ missOut ridgeP [-1, 2, 1, -1] = [0] := by decide +kernel
theorem ridge_best : bestD false ridgeP (-1) = some ([-1, 0, 1, -1], 50) := by decide +kernel
theorem ridge_need : needP ridgeP = [1] := by decide +kernel
theorem ridge_bound : boundB ridgeP [0, 750] 30 = true := by decide +kernel
theorem ridge_thin : thinP ridgeP = true := by decide +kernel
theorem ridge_few {p : Pm} (h : p.pj = ridgeP) : PmFew p := thin_few (by rw [h]; exact ridge_thin)
def vArr (B n : Nat) (cs : Array Value) (v : Value) (W : World) : Prop := ∃ nb, v = .slice (some ⟨nb, 0, none⟩) n n ∧ B ≤ nb ∧ Whole W nb 3 cs
theorem vArr_st {B n : Nat} {cs : Array Value} : ∀ v W W', vArr B n cs v W → newer W W' → vArr B n cs v W' := fun _ _ _ ⟨nb, h1, h2, h3⟩ hb => ⟨nb, h1, h2, h3.below hb h3.lt⟩
def vRidge (v : Value) (W : World) : Prop := ∃ p : Pm, v = pmV p ∧ p.pj = ridgeP ∧ PmOk p W ∧ p.ps.length ≤ p.pc
theorem vRidge_st : ∀ v W W', vRidge v W → newer W W' → vRidge v W' := fun _ _ _ ⟨p, h1, h2, h3, h4⟩ hb => ⟨p, h1, h2, h3.next hb, h4⟩
theorem exec_eq38 {o : Oper} {a : Act} {W : World} {x y : Operand} {lo hi : Int} (ho : o.op = .binOp .eql 38 x y 38) (hx : a.eval x = .agg #[vi lo, vi hi]) (hy : a.eval y = .agg #[vi lo, vi hi]) : (execOp a.eval o).run Try.prog W = .ok (.value (.bool true)) W := by
  unfold execOp
  rw [ho]
  dsimp only
  rw [hx, hy]
  simp [go_sem]
set_option maxRecDepth 100000 in
set_option maxHeartbeats 8000000 in
theorem wakes_any (w : World) : Calls Try.prog 17 #[] w fun e w' => e = .returned (.bool true) ∧ newer w w' := by
  have hrb : bestR ridgeP = some ([-1, 0, 1, -1], 50) ∧ bestE ridgeP = 0 := by
    unfold bestR bestE
    rw [ridge_fault, ridge_best]
    exact ⟨rfl, rfl⟩
  have HRB := Lib.hid hrb
  clear hrb
  go_enter Try.func17, Try.ntmps17
  go_wp2_with fail
  refine (ridge_any w).mono ?_
  rintro e w1 ⟨⟨p1, rfl, hj1, ho1, -⟩, hb1⟩
  have H1 := Lib.hid (And.intro hj1 (And.intro ho1 hb1))
  clear hj1 ho1 hb1
  have hn2 := newer_allocH w1 (.cells #[vi 0, vi 1, vi 1, vi (-1)] 3)
  have HA := Lib.hid (worksAdds_any p1 [0, 1, 1, -1] (some ⟨w1.heap.size, 0, none⟩) 4 0 1 _ (H1.out.2.1.next hn2) (ridge_few H1.out.1) (by simp) (row_of_whole (enc := intL) (s := 1) (fun _ => rfl) (Whole.made w1 3 #[vi 0, vi 1, vi 1, vi (-1)]) rfl))
  have hav : addsV p1.pj [0, 1, 1, -1] 0 1 = .tuple #[.agg #[vi 95, vi 124], vi 0] := by
    unfold addsV
    rw [H1.out.1, if_pos ridge_adds.1]
    have e1 := ridge_adds.2.1
    have e2 := ridge_adds.2.2
    simp only [show ((0 : Int).toNat) = 0 from rfl, e1, e2]
  rw [hav] at HA
  have HN2 := Lib.hid (newer_trans H1.out.2.2 hn2)
  clear hn2 hav
  go_wp2_with fail
  refine (HA.out).mono ?_
  rintro e w2 ⟨rfl, hb2⟩
  have hq := Whole.made w2 38 #[vi 95, vi 124]
  have HQ := Lib.hid (And.intro hq (newer_trans (newer_trans HN2.out hb2) (newer_allocH w2 (.cells #[vi 95, vi 124] 38))))
  obtain ⟨qb, hqb⟩ : ∃ qb, qb = w2.heap.size := ⟨_, rfl⟩
  rw [← hqb] at HQ
  clear HA HN2 H1 hb2 hq
  go_wp2_with fail
  rw [← hqb]
  clear hqb
  refine (ridge_any _).mono ?_
  rintro e w3 ⟨⟨p2, rfl, hj2, ho2, -⟩, hb3⟩
  have H2 := Lib.hid (And.intro hj2 (And.intro ho2 (And.intro (HQ.out.1.below hb3 HQ.out.1.lt) (newer_trans HQ.out.2 hb3))))
  clear hj2 ho2 hb3 HQ
  have hn4 := newer_allocH w3 (.cells #[vi (-1), vi 2, vi 1, vi (-1)] 3)
  have HM := Lib.hid (missing_any p2 [-1, 2, 1, -1] (some ⟨w3.heap.size, 0, none⟩) 4 _ (H2.out.2.1.next hn4) (ridge_few H2.out.1) (by simp) (row_of_whole (enc := intL) (s := 1) (fun _ => rfl) (Whole.made w3 3 #[vi (-1), vi 2, vi 1, vi (-1)]) rfl))
  unfold missed at HM
  rw [H2.out.1, ridge_miss.1, ridge_miss.2] at HM
  have HN4 := Lib.hid (And.intro (H2.out.2.2.1.alloc (.cells #[vi (-1), vi 2, vi 1, vi (-1)] 3)) (newer_trans H2.out.2.2.2 hn4))
  clear hn4
  go_wp2_with fail
  refine (HM.out).mono ?_
  rintro e w4 ⟨A1, c1, rfl, hr1, hb4⟩
  have H4 := Lib.hid (And.intro (HN4.out.1.below hb4 HN4.out.1.lt) (And.intro (newer_trans HN4.out.2 hb4) hr1))
  clear hr1 hb4 HM HN4 H2
  go_wp2_with fail
  refine (ridge_any _).mono ?_
  rintro e w5 ⟨⟨p3, rfl, hj3, ho3, hc3⟩, hb5⟩
  have H5 := Lib.hid (And.intro hj3 (And.intro ho3 (And.intro (H4.out.1.below hb5 H4.out.1.lt) (And.intro (newer_trans H4.out.2.1 hb5) ((H4.out.2.2.below hb5).more hb5.size)))))
  have HB := Lib.hid (worksBest_any p3 w5 ho3 (ridge_few hj3) hc3)
  rw [hj3, HRB.out.1, HRB.out.2, show costOf (some ([-1, 0, 1, -1], 50)) = 50 from rfl] at HB
  clear hj3 ho3 hc3 hb5 H4
  go_wp2_with fail
  refine (HB.out).mono ?_
  rintro e w6 ⟨⟨v2, rfl, hpl⟩, hb6⟩
  obtain ⟨⟨A2, c2, rfl, -⟩, ho2⟩ := hpl
  have hr2 : Row intL 1 w6 w6.heap.size A2 [-1, 0, 1, -1] := row_of_own (n := 4) (cap := c2) (base := w5.heap.size) (e := 3) (by omega) (fun _ => rfl) (by rw [ints_flat]; exact ho2)
  have H6 := Lib.hid (And.intro (H5.out.2.2.1.below hb6 H5.out.2.2.1.lt) (And.intro (newer_trans H5.out.2.2.2.1 hb6) (And.intro ((H5.out.2.2.2.2.below hb6).more hb6.size) hr2)))
  clear ho2 hr2 hb6 HB H5
  go_wp2_with fail
  refine (ridge_any _).mono ?_
  rintro e w7 ⟨⟨p4, rfl, hj4, ho4, hc4⟩, hb7⟩
  have H7 := Lib.hid (And.intro (H6.out.1.below hb7 H6.out.1.lt) (And.intro (newer_trans H6.out.2.1 hb7) (And.intro ((H6.out.2.2.1.below hb7).more hb7.size) ((H6.out.2.2.2.below hb7).more hb7.size))))
  have HD := Lib.hid (needed_any p4 w7 ho4 (ridge_few hj4) hc4)
  rw [hj4, HRB.out.2, ridge_need] at HD
  clear hj4 ho4 hc4 hb7 H6
  go_wp2_with fail
  refine (HD.out).mono ?_
  rintro e w9 ⟨⟨A3, c3, rfl, hr3⟩, hb9⟩
  have HR1 := Lib.hid ((H7.out.2.2.1.below hb9).more hb9.size)
  have HR2 := Lib.hid ((H7.out.2.2.2.below hb9).more hb9.size)
  have HR3 := Lib.hid hr3
  have HN := Lib.hid (newer_trans H7.out.2.1 hb9)
  have q0 := (H7.out.1.below hb9 H7.out.1.lt).at 0 (v := vi 95) rfl
  have q1 := (H7.out.1.below hb9 H7.out.1.lt).at 1 (v := vi 124) rfl
  clear hr3 hb9 HD H7
  go_upto_region 5 with fail
  refine wp_words (by kernel_rfl) (region_told_g 43 (by kernel_rfl) (by kernel_rfl) (fun W => Below w9.heap.size w9 W) newer (pickD [vIs (vi 0), vIs (.bool true), vIs (.bool true), vIs (vi 0), vIs (.bool true), vIs (.bool true), vIs (.bool true), vIs (vi 0), vIs (.bool true), vIs (.bool true), vIs (.bool true), vIs (vi 0), vIs (.bool true), vIs (.bool true), vIs (.bool true), vIs (.agg #[vi 95, vi 124]), vIs (.agg #[vi 95, vi 124]), vIs (.bool true), vIs (.bool true), vIs (.bool true), vIs (.slice A1 1 c1), vArr w9.heap.size 1 #[vi 0], vIs (.bool true), vIs (.bool true), vIs (.bool true), vIs (.slice A2 4 c2), vArr w9.heap.size 4 #[vi (-1), vi 0, vi 1, vi (-1)], vIs (.bool true), vIs (.bool true), vIs (.bool true), vIs (vi 50), vIs (.bool true), vIs (.bool true), vIs (.bool true), vIs (.slice A3 1 c3), vArr w9.heap.size 1 #[vi 1], vIs (.bool true), vIs (.bool true), vIs (.bool true), vRidge, vArr w9.heap.size 2 #[vi 0, vi 750], vIs (.bool true), vIs (.bool true)]) ⟨trivial, trivial, trivial, (fun _ _ h => h), (fun _ _ h => h), trivial, trivial, (fun _ _ h => h), (fun _ _ h => h), trivial, trivial, (fun _ _ h => h), (fun _ _ h => h), trivial, trivial, (fun _ _ h => h), (fun _ _ h => h), (fun _ _ h => h), trivial, trivial, (fun _ _ h => h), (fun _ _ h => h), (fun _ _ h => h), trivial, trivial, (fun _ _ h => h), (fun _ _ h => h), (fun _ _ h => h), trivial, trivial, (fun _ _ h => h), (fun _ _ h => h), trivial, trivial, (fun _ _ h => h), (fun _ _ h => h), (fun _ _ h => h), trivial, trivial, (fun _ _ h => h), (fun _ _ h => h), (fun _ _ h => h), trivial, trivial⟩ (fun h k => newer_trans h k) (pickD_stable _ ⟨vIs_st, vIs_st, vIs_st, vIs_st, vIs_st, vIs_st, vIs_st, vIs_st, vIs_st, vIs_st, vIs_st, vIs_st, vIs_st, vIs_st, vIs_st, vIs_st, vIs_st, vIs_st, vIs_st, vIs_st, vIs_st, vArr_st, vIs_st, vIs_st, vIs_st, vIs_st, vArr_st, vIs_st, vIs_st, vIs_st, vIs_st, vIs_st, vIs_st, vIs_st, vIs_st, vArr_st, vIs_st, vIs_st, vIs_st, vRidge_st, vArr_st, vIs_st, vIs_st, trivial⟩) (Below.refl _ w9).drew (Below.refl _ _) ?_ ?_)
  · refine ⟨?_, ?_, ?_, ?_, ?_, ?_, ?_, ?_, ?_, ?_, ?_, ?_, ?_, ?_, ?_, ?_, ?_, ?_, ?_, ?_, ?_, ?_, ?_, ?_, ?_, ?_, ?_, ?_, ?_, ?_, ?_, ?_, ?_, ?_, ?_, ?_, ?_, ?_, ?_, ?_, ?_, ?_, ?_, trivial⟩
    · intro a W hG hR hO hp
      have h2 := hO.slot 2 (by kernel_rfl)
      refine wp_yields (v := vi 0) ?_ ⟨_, rfl, rfl, Below.refl _ _, hG⟩
      simp [slotOf] at h2
      simp [execOp, go_sem, h2]
    · intro a W hG hR hO hp
      have h33 : slotOf a 33 = vi 0 := hp.1
      refine wp_yields (v := .bool true) ?_ ⟨_, rfl, rfl, Below.refl _ _, hG⟩
      simp [slotOf] at h33
      simp [execOp, go_sem, h33]
    · intro a W hG hR hO hp
      have h34 : slotOf a 34 = .bool true := hp.1
      refine wp_yields (v := .bool true) ?_ ⟨_, rfl, rfl, Below.refl _ _, hG⟩
      simp [slotOf] at h34
      simp [execOp, go_sem, h34]
    · intro a W hG hR hO hp
      have h4 := hO.slot 4 (by kernel_rfl)
      refine wp_yields (v := vi 0) ?_ ⟨_, rfl, rfl, Below.refl _ _, hG⟩
      simp [slotOf] at h4
      simp [execOp, go_sem, h4]
    · intro a W hG hR hO hp
      have h36 : slotOf a 36 = vi 0 := hp.1
      refine wp_yields (v := .bool true) ?_ ⟨_, rfl, rfl, Below.refl _ _, hG⟩
      simp [slotOf] at h36
      simp [execOp, go_sem, h36]
    · intro a W hG hR hO hp
      have h35 : slotOf a 35 = .bool true := hp.1
      have h37 : slotOf a 37 = .bool true := hp.2.1
      refine wp_yields (v := .bool true) ?_ ⟨_, rfl, rfl, Below.refl _ _, hG⟩
      simp [slotOf] at h35 h37
      simp [execOp, go_sem, h35, h37]
    · intro a W hG hR hO hp
      have h38 : slotOf a 38 = .bool true := hp.1
      refine wp_yields (v := .bool true) ?_ ⟨_, rfl, rfl, Below.refl _ _, hG⟩
      simp [slotOf] at h38
      simp [execOp, go_sem, h38]
    · intro a W hG hR hO hp
      have h7 := hO.slot 7 (by kernel_rfl)
      refine wp_yields (v := vi 0) ?_ ⟨_, rfl, rfl, Below.refl _ _, hG⟩
      simp [slotOf] at h7
      simp [execOp, go_sem, h7]
    · intro a W hG hR hO hp
      have h40 : slotOf a 40 = vi 0 := hp.1
      refine wp_yields (v := .bool true) ?_ ⟨_, rfl, rfl, Below.refl _ _, hG⟩
      simp [slotOf] at h40
      simp [execOp, go_sem, h40]
    · intro a W hG hR hO hp
      have h39 : slotOf a 39 = .bool true := hp.1
      have h41 : slotOf a 41 = .bool true := hp.2.1
      refine wp_yields (v := .bool true) ?_ ⟨_, rfl, rfl, Below.refl _ _, hG⟩
      simp [slotOf] at h39 h41
      simp [execOp, go_sem, h39, h41]
    · intro a W hG hR hO hp
      have h42 : slotOf a 42 = .bool true := hp.1
      refine wp_yields (v := .bool true) ?_ ⟨_, rfl, rfl, Below.refl _ _, hG⟩
      simp [slotOf] at h42
      simp [execOp, go_sem, h42]
    · intro a W hG hR hO hp
      have h9 := hO.slot 9 (by kernel_rfl)
      refine wp_yields (v := vi 0) ?_ ⟨_, rfl, rfl, Below.refl _ _, hG⟩
      simp [slotOf] at h9
      simp [execOp, go_sem, h9]
    · intro a W hG hR hO hp
      have h44 : slotOf a 44 = vi 0 := hp.1
      refine wp_yields (v := .bool true) ?_ ⟨_, rfl, rfl, Below.refl _ _, hG⟩
      simp [slotOf] at h44
      simp [execOp, go_sem, h44]
    · intro a W hG hR hO hp
      have h43 : slotOf a 43 = .bool true := hp.1
      have h45 : slotOf a 45 = .bool true := hp.2.1
      refine wp_yields (v := .bool true) ?_ ⟨_, rfl, rfl, Below.refl _ _, hG⟩
      simp [slotOf] at h43 h45
      simp [execOp, go_sem, h43, h45]
    · intro a W hG hR hO hp
      have h46 : slotOf a 46 = .bool true := hp.1
      refine wp_yields (v := .bool true) ?_ ⟨_, rfl, rfl, Below.refl _ _, hG⟩
      simp [slotOf] at h46
      simp [execOp, go_sem, h46]
    · intro a W hG hR hO hp
      have h1 := hO.slot 1 (by kernel_rfl)
      have c0 := keep_cell q0 hG
      have c1 := keep_cell q1 hG
      refine wp_yields (v := .agg #[vi 95, vi 124]) ?_ ⟨_, rfl, rfl, Below.refl _ _, hG⟩
      simp [slotOf] at h1
      simp [execOp, go_sem, h1, c0, c1]
    · intro a W hG hR hO hp
      refine wp_enters (f := 46) (args := #[.int .i64 95, .int .i64 124]) ?_ ((span_any 95 124 W).mono ?_)
      · skip
        simp [go_sem]
      · rintro e w' ⟨rfl, hb⟩
        exact ⟨_, rfl, _, rfl, rfl, hb, below_next hG hb⟩
    · intro a W hG hR hO hp
      have h48 : slotOf a 48 = .agg #[vi 95, vi 124] := hp.1
      have h49 : slotOf a 49 = .agg #[vi 95, vi 124] := hp.2.1
      refine wp_yields (v := .bool true) ?_ ⟨_, rfl, rfl, Below.refl _ _, hG⟩
      exact exec_eq38 rfl ((eval_slot a 48).trans h48) ((eval_slot a 49).trans h49)
    · intro a W hG hR hO hp
      have h47 : slotOf a 47 = .bool true := hp.1
      have h50 : slotOf a 50 = .bool true := hp.2.1
      refine wp_yields (v := .bool true) ?_ ⟨_, rfl, rfl, Below.refl _ _, hG⟩
      simp [slotOf] at h47 h50
      simp [execOp, go_sem, h47, h50]
    · intro a W hG hR hO hp
      have h51 : slotOf a 51 = .bool true := hp.1
      refine wp_yields (v := .bool true) ?_ ⟨_, rfl, rfl, Below.refl _ _, hG⟩
      simp [slotOf] at h51
      simp [execOp, go_sem, h51]
    · intro a W hG hR hO hp
      have h3 := hO.slot 3 (by kernel_rfl)
      refine wp_yields (v := .slice A1 1 c1) ?_ ⟨_, rfl, rfl, Below.refl _ _, hG⟩
      simp [slotOf] at h3
      simp [execOp, go_sem, h3]
    · intro a W hG hR hO hp
      refine wp_makes (v := .slice (some ⟨W.heap.size, 0, none⟩) 1 1) (W' := W.alloc (.cells #[vi 0] 3)) ?_ ⟨_, rfl, ⟨_, rfl, hG.size, Whole.made _ _ _⟩, newer_allocH _ _, hG.alloc hG.size _⟩
      simp [execOp, go_sem]
    · intro a W hG hR hO hp
      have h53 : slotOf a 53 = .slice A1 1 c1 := hp.1
      have h54 := hp.2.1
      obtain ⟨nb, h54, hnb, hW⟩ := h54
      refine wp_enters (f := 29) (args := #[.slice A1 1 c1, .slice (some ⟨nb, 0, none⟩) 1 1]) ?_ ((lawInts [0] [0] A1 (some ⟨nb, 0, none⟩) c1 1 W (by simp) (by simp) ((HR1.out.below hG).more hG.size) (row_of_whole (enc := intL) (s := 1) (fun _ => rfl) hW rfl)).mono ?_)
      · simp [slotOf] at h53 h54
        simp [go_sem, h53, h54]
      · rintro e w' ⟨rfl, hb⟩
        exact ⟨_, rfl, _, rfl, rfl, hb, below_next hG hb⟩
    · intro a W hG hR hO hp
      have h52 : slotOf a 52 = .bool true := hp.1
      have h55 : slotOf a 55 = .bool true := hp.2.1
      refine wp_yields (v := .bool true) ?_ ⟨_, rfl, rfl, Below.refl _ _, hG⟩
      simp [slotOf] at h52 h55
      simp [execOp, go_sem, h52, h55]
    · intro a W hG hR hO hp
      have h56 : slotOf a 56 = .bool true := hp.1
      refine wp_yields (v := .bool true) ?_ ⟨_, rfl, rfl, Below.refl _ _, hG⟩
      simp [slotOf] at h56
      simp [execOp, go_sem, h56]
    · intro a W hG hR hO hp
      have h5 := hO.slot 5 (by kernel_rfl)
      refine wp_yields (v := .slice A2 4 c2) ?_ ⟨_, rfl, rfl, Below.refl _ _, hG⟩
      simp [slotOf] at h5
      simp [execOp, go_sem, h5]
    · intro a W hG hR hO hp
      refine wp_makes (v := .slice (some ⟨W.heap.size, 0, none⟩) 4 4) (W' := W.alloc (.cells #[vi (-1), vi 0, vi 1, vi (-1)] 3)) ?_ ⟨_, rfl, ⟨_, rfl, hG.size, Whole.made _ _ _⟩, newer_allocH _ _, hG.alloc hG.size _⟩
      simp [execOp, go_sem]
    · intro a W hG hR hO hp
      have h58 : slotOf a 58 = .slice A2 4 c2 := hp.1
      have h59 := hp.2.1
      obtain ⟨nb, h59, hnb, hW⟩ := h59
      refine wp_enters (f := 29) (args := #[.slice A2 4 c2, .slice (some ⟨nb, 0, none⟩) 4 4]) ?_ ((lawInts [-1, 0, 1, -1] [-1, 0, 1, -1] A2 (some ⟨nb, 0, none⟩) c2 4 W (by simp) (by simp) ((HR2.out.below hG).more hG.size) (row_of_whole (enc := intL) (s := 1) (fun _ => rfl) hW rfl)).mono ?_)
      · simp [slotOf] at h58 h59
        simp [go_sem, h58, h59]
      · rintro e w' ⟨rfl, hb⟩
        exact ⟨_, rfl, _, rfl, rfl, hb, below_next hG hb⟩
    · intro a W hG hR hO hp
      have h57 : slotOf a 57 = .bool true := hp.1
      have h60 : slotOf a 60 = .bool true := hp.2.1
      refine wp_yields (v := .bool true) ?_ ⟨_, rfl, rfl, Below.refl _ _, hG⟩
      simp [slotOf] at h57 h60
      simp [execOp, go_sem, h57, h60]
    · intro a W hG hR hO hp
      have h61 : slotOf a 61 = .bool true := hp.1
      refine wp_yields (v := .bool true) ?_ ⟨_, rfl, rfl, Below.refl _ _, hG⟩
      simp [slotOf] at h61
      simp [execOp, go_sem, h61]
    · intro a W hG hR hO hp
      have h6 := hO.slot 6 (by kernel_rfl)
      refine wp_yields (v := vi 50) ?_ ⟨_, rfl, rfl, Below.refl _ _, hG⟩
      simp [slotOf] at h6
      simp [execOp, go_sem, h6]
    · intro a W hG hR hO hp
      have h63 : slotOf a 63 = vi 50 := hp.1
      refine wp_yields (v := .bool true) ?_ ⟨_, rfl, rfl, Below.refl _ _, hG⟩
      simp [slotOf] at h63
      simp [execOp, go_sem, h63]
    · intro a W hG hR hO hp
      have h62 : slotOf a 62 = .bool true := hp.1
      have h64 : slotOf a 64 = .bool true := hp.2.1
      refine wp_yields (v := .bool true) ?_ ⟨_, rfl, rfl, Below.refl _ _, hG⟩
      simp [slotOf] at h62 h64
      simp [execOp, go_sem, h62, h64]
    · intro a W hG hR hO hp
      have h65 : slotOf a 65 = .bool true := hp.1
      refine wp_yields (v := .bool true) ?_ ⟨_, rfl, rfl, Below.refl _ _, hG⟩
      simp [slotOf] at h65
      simp [execOp, go_sem, h65]
    · intro a W hG hR hO hp
      have h8 := hO.slot 8 (by kernel_rfl)
      refine wp_yields (v := .slice A3 1 c3) ?_ ⟨_, rfl, rfl, Below.refl _ _, hG⟩
      simp [slotOf] at h8
      simp [execOp, go_sem, h8]
    · intro a W hG hR hO hp
      refine wp_makes (v := .slice (some ⟨W.heap.size, 0, none⟩) 1 1) (W' := W.alloc (.cells #[vi 1] 3)) ?_ ⟨_, rfl, ⟨_, rfl, hG.size, Whole.made _ _ _⟩, newer_allocH _ _, hG.alloc hG.size _⟩
      simp [execOp, go_sem]
    · intro a W hG hR hO hp
      have h67 : slotOf a 67 = .slice A3 1 c3 := hp.1
      have h68 := hp.2.1
      obtain ⟨nb, h68, hnb, hW⟩ := h68
      refine wp_enters (f := 29) (args := #[.slice A3 1 c3, .slice (some ⟨nb, 0, none⟩) 1 1]) ?_ ((lawInts [1] [1] A3 (some ⟨nb, 0, none⟩) c3 1 W (by simp) (by simp) ((HR3.out.below hG).more hG.size) (row_of_whole (enc := intL) (s := 1) (fun _ => rfl) hW rfl)).mono ?_)
      · simp [slotOf] at h67 h68
        simp [go_sem, h67, h68]
      · rintro e w' ⟨rfl, hb⟩
        exact ⟨_, rfl, _, rfl, rfl, hb, below_next hG hb⟩
    · intro a W hG hR hO hp
      have h66 : slotOf a 66 = .bool true := hp.1
      have h69 : slotOf a 69 = .bool true := hp.2.1
      refine wp_yields (v := .bool true) ?_ ⟨_, rfl, rfl, Below.refl _ _, hG⟩
      simp [slotOf] at h66 h69
      simp [execOp, go_sem, h66, h69]
    · intro a W hG hR hO hp
      have h70 : slotOf a 70 = .bool true := hp.1
      refine wp_yields (v := .bool true) ?_ ⟨_, rfl, rfl, Below.refl _ _, hG⟩
      simp [slotOf] at h70
      simp [execOp, go_sem, h70]
    · intro a W hG hR hO hp
      refine wp_enters (f := 45) (args := #[]) ?_ ((ridge_any W).mono ?_)
      · simp [go_sem]
      · rintro e w' ⟨⟨p, rfl, h1, h2, h3⟩, hb⟩
        exact ⟨_, rfl, _, rfl, ⟨p, rfl, h1, h2, h3⟩, hb, below_next hG hb⟩
    · intro a W hG hR hO hp
      refine wp_makes (v := .slice (some ⟨W.heap.size, 0, none⟩) 2 2) (W' := W.alloc (.cells #[vi 0, vi 750] 3)) ?_ ⟨_, rfl, ⟨_, rfl, hG.size, Whole.made _ _ _⟩, newer_allocH _ _, hG.alloc hG.size _⟩
      simp [execOp, go_sem]
    · intro a W hG hR hO hp
      have h72 := hp.1
      have h73 := hp.2.1
      obtain ⟨p, h72, hj, ho, hc⟩ := h72
      obtain ⟨nb, h73, hnb, hW⟩ := h73
      refine wp_enters (f := 31) (args := #[pmV p, .slice (some ⟨nb, 0, none⟩) 2 2, vi 30]) ?_ ((prove_any p [0, 750] (some ⟨nb, 0, none⟩) 2 30 W ho (ridge_few hj) (row_of_whole (enc := intL) (s := 1) (fun _ => rfl) hW rfl) (by simp)).mono ?_)
      · simp [slotOf] at h72 h73
        simp [go_sem, h72, h73]
      · rintro e w' ⟨rfl, hb⟩
        exact ⟨_, rfl, _, rfl, by show Value.bool _ = _; rw [hj, ridge_bound], hb, below_next hG hb⟩
    · intro a W hG hR hO hp
      have h71 : slotOf a 71 = .bool true := hp.1
      have h74 : slotOf a 74 = .bool true := hp.2.1
      refine wp_yields (v := .bool true) ?_ ⟨_, rfl, rfl, Below.refl _ _, hG⟩
      simp [slotOf] at h71 h74
      simp [execOp, go_sem, h71, h74]
  · intro W hG hR
    rintro _ rfl _ rfl _ rfl _ rfl _ rfl _ rfl _ rfl _ rfl _ rfl _ rfl _ rfl _ rfl _ rfl _ rfl _ rfl _ rfl _ rfl _ rfl _ rfl _ rfl _ rfl _ hv54 _ rfl _ rfl _ rfl _ rfl _ hv59 _ rfl _ rfl _ rfl _ rfl _ rfl _ rfl _ rfl _ rfl _ hv68 _ rfl _ rfl _ rfl _ hv72 _ hv73 _ rfl _ rfl
    change wpList _ _ _ _ _ _
    simp only [Act.put, List.setIfInBounds_toArray, List.set_cons_zero, List.set_cons_succ, List.drop_succ_cons, List.drop_zero]
    have HZ := Lib.hid (newer_trans HN.out hG)
    clear hG hR q0 q1 hv54 hv59 hv68 hv72 hv73
    go_wp2_with fail
    go_ret
    exact ⟨rfl, HZ.out⟩
end Go.Proofs.Ytpnpnfjhjjdmgaa
