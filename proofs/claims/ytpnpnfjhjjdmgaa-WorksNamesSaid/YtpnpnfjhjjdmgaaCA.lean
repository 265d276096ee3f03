/- WorksNames returns true: the examples, and the errors, are as the document says. -/
import Derived.Test.YtpnpnfjhjjdmgaaBZ
import Derived.Test.YtpnpnfjhjjdmgaaAK
namespace Go.Proofs.Ytpnpnfjhjjdmgaa
open Go.ChangeShapes Go.WideShapes Go.ChangeAt Go.RowKit Go.Deep

theorem exec_ne38 {o : Oper} {a : Act} {W : World} {x y : Operand} {lo hi : Int} (ho : o.op = .binOp .neq 38 x y 38) (hx : a.eval x = .agg #[vi lo, vi hi]) (hy : a.eval y = .agg #[vi lo, vi hi]) : (execOp a.eval o).run Try.prog W = .ok (.value (.bool false)) W := by
  unfold execOp
  rw [ho]
  dsimp only
  rw [hx, hy]
  simp [go_sem]
theorem adds_ridge {p : Pm} (l : List Int) (s y : Int) (nb c : Nat) {w : World} {cs : Array Value} (hj : p.pj = ridgeP) (hok : PmOk p w) (hl : l.length ≤ 1000) (hw : Whole w nb 3 cs) (hc : cs.toList = l.flatMap intL) {r : Value} (hr : addsV ridgeP l s y = r) :
    Calls Try.prog 20 #[pmV p, .slice (some ⟨nb, 0, none⟩) l.length c, vi s, vi y] w fun e w' => e = .returned r ∧ newer w w' := by
  have h := worksAdds_any p l (some ⟨nb, 0, none⟩) c s y w hok (ridge_few hj) hl (row_of_whole (enc := intL) (s := 1) (fun _ => rfl) hw hc)
  rw [hj, hr] at h
  exact h
theorem prove_ridge {p : Pm} (l : List Int) (bd : Int) (nb c : Nat) {w : World} {cs : Array Value} (hj : p.pj = ridgeP) (hok : PmOk p w) (hl : l.length ≤ 1000) (hw : Whole w nb 3 cs) (hc : cs.toList = l.flatMap intL) {r : Bool} (hr : boundB ridgeP l bd = r) :
    Calls Try.prog 31 #[pmV p, .slice (some ⟨nb, 0, none⟩) l.length c, vi bd] w fun e w' => e = .returned (.bool r) ∧ newer w w' := by
  have h := prove_any p l (some ⟨nb, 0, none⟩) c bd w hok (ridge_few hj) (row_of_whole (enc := intL) (s := 1) (fun _ => rfl) hw hc) hl
  rw [hj, hr] at h
  exact h
theorem suff_ridge {p : Pm} (l : List Int) (nb c : Nat) {w : World} {cs : Array Value} (hj : p.pj = ridgeP) (hok : PmOk p w) (hpc : p.ps.length ≤ p.pc) (hl : l.length ≤ 1000) (hw : Whole w nb 3 cs) (hc : cs.toList = l.flatMap intL) {r : Bool} (hr : suffB ridgeP l = r) :
    Calls Try.prog 37 #[pmV p, .slice (some ⟨nb, 0, none⟩) l.length c] w fun e w' => e = .returned (.bool r) ∧ newer w w' := by
  have h := suffices_any p l (some ⟨nb, 0, none⟩) c w hok (ridge_few hj) hl hpc (row_of_whole (enc := intL) (s := 1) (fun _ => rfl) hw hc)
  rw [hj, hr] at h
  exact h
theorem miss_ridge {p : Pm} (l : List Int) (nb c : Nat) {w : World} {cs : Array Value} (hj : p.pj = ridgeP) (hok : PmOk p w) (hl : l.length ≤ 1000) (hw : Whole w nb 3 cs) (hc : cs.toList = l.flatMap intL) {r : Int} (hr : checkN ridgeP l = r) :
    Calls Try.prog 36 #[pmV p, .slice (some ⟨nb, 0, none⟩) l.length c] w fun e w' => (∃ A n c, e = .returned (.tuple #[.slice A n c, vi r])) ∧ newer w w' := by
  refine (missing_any p l (some ⟨nb, 0, none⟩) c w hok (ridge_few hj) hl (row_of_whole (enc := intL) (s := 1) (fun _ => rfl) hw hc)).mono ?_
  rintro e w' ⟨A, c, rfl, -, hb⟩
  rw [hj, hr]
  exact ⟨⟨_, _, _, rfl⟩, hb⟩
theorem court_own {q : Pj} {p : Pm} {w : World} (hj : p.pj = q) (hok : PmOk p w) (few : PmFew p) (hpc : p.ps.length ≤ p.pc) {E : Int} {L : List Int} (hE : courtE q = E) (hL : courtL q = L) :
    Calls Try.prog 42 #[pmV p] w fun e w' => (∃ A c, e = .returned (.tuple #[.slice A L.length c, vi E]) ∧ Row intL 1 w' w'.heap.size A L) ∧ newer w w' := by
  have h := court_any p w hok few hpc
  rw [hj, hE, hL] at h
  exact h
theorem bestE_own {q : Pj} {p : Pm} {w : World} (hj : p.pj = q) (hok : PmOk p w) (few : PmFew p) (hpc : p.ps.length ≤ p.pc) {E : Int} (hE : bestE q = E) :
    Calls Try.prog 27 #[pmV p] w fun e w' => (∃ A n c cn, e = .returned (.tuple #[.slice A n c, vi cn, vi E])) ∧ newer w w' := by
  refine (best_list hj hok few hpc).mono ?_
  rintro e w' ⟨⟨A, c, rfl, -⟩, hb⟩
  rw [hE]
  exact ⟨⟨_, _, _, _, rfl⟩, hb⟩
theorem need_own {q : Pj} {p : Pm} {w : World} (hj : p.pj = q) (hok : PmOk p w) (few : PmFew p) (hpc : p.ps.length ≤ p.pc) {E : Int} (hE : bestE q = E) :
    Calls Try.prog 33 #[pmV p] w fun e w' => (∃ A n c, e = .returned (.tuple #[.slice A n c, vi E])) ∧ newer w w' := by
  refine (needed_any p w hok few hpc).mono ?_
  rintro e w' ⟨⟨A, c, rfl, -⟩, hb⟩
  rw [hj, hE]
  exact ⟨⟨_, _, _, rfl⟩, hb⟩
theorem check_own {q : Pj} {p : Pm} {w : World} (hj : p.pj = q) (hok : PmOk p w) (few : PmFew p) {E : Int} (hE : faultN q = E) :
    Calls Try.prog 18 #[pmV p] w fun e w' => e = .returned (vi E) ∧ newer w w' := by
  have h := checkProject_any p w hok few
  rw [hj, hE] at h
  exact h
theorem names_addsV : addsV ridgeP [0, 1, 1, -1] 1 2 = .tuple #[.agg #[vi 45, vi 55], vi 0] := by
  unfold addsV
  rw [if_pos names_adds.1]
  have e1 := names_adds.2.1
  have e2 := names_adds.2.2
  simp only [show ((1 : Int).toNat) = 1 from rfl, e1, e2]
theorem names_badV : addsV ridgeP [2, -1, -1, -1] 0 0 = .tuple #[.agg #[vi 0, vi 0], vi 2] ∧ addsV ridgeP [-1, -1, -1, -1] 2 0 = .tuple #[.agg #[vi 0, vi 0], vi 2] := by
  unfold addsV
  rw [names_bad.1, names_bad.2.1, if_neg (by decide), if_neg (by decide)]
  exact ⟨rfl, rfl⟩
def manyPm (mb : Nat) : Pm := ⟨0, 0, List.replicate 9 ⟨⟨0, 0, 0, 0, 0, []⟩, none, 0⟩, some ⟨mb, 0, none⟩, 9, [], none, 0, [], none, 0, [], none, 0⟩
def noPm : Pm := ⟨0, 0, [], none, 0, [], none, 0, [], none, 0, [], none, 0⟩
theorem many_fault (mb : Nat) : faultN (manyPm mb).pj = 3 := by
  unfold faultN manyPm Pm.pj
  simp
theorem no_fault : faultN noPm.pj = 1 := by decide +kernel
theorem no_ok (w : World) : PmOk noPm w := ⟨Row.nil _, fun x hx => by simp [noPm] at hx, Row.nil _, Row.nil _, Row.nil _⟩
theorem no_few : PmFew noPm := ⟨by simp [noPm], fun x hx => by simp [noPm] at hx, by simp [noPm], by simp [noPm], by simp [noPm]⟩
theorem many_few (mb : Nat) : PmFew (manyPm mb) := ⟨by simp [manyPm], fun x hx => by simp [manyPm] at hx; rw [hx]; simp, by simp [manyPm], by simp [manyPm], by simp [manyPm]⟩
theorem many_ok {mb : Nat} {w : World} {cs : Array Value} (h : Whole w mb 87 cs) (hc : cs.toList = (manyPm mb).ws.flatMap wkL) : PmOk (manyPm mb) w :=
  ⟨row_of_whole (enc := wkL) (s := 6) (fun _ => rfl) h hc, fun x hx => by simp [manyPm] at hx; rw [hx]; exact Row.nil _, Row.nil _, Row.nil _, Row.nil _⟩
def manyCs : Array Value := #[vi 0, vi 0, vi 0, vi 0, vi 0, .slice none 0 0, vi 0, vi 0, vi 0, vi 0, vi 0, .slice none 0 0, vi 0, vi 0, vi 0, vi 0, vi 0, .slice none 0 0, vi 0, vi 0, vi 0, vi 0, vi 0, .slice none 0 0, vi 0, vi 0, vi 0, vi 0, vi 0, .slice none 0 0, vi 0, vi 0, vi 0, vi 0, vi 0, .slice none 0 0, vi 0, vi 0, vi 0, vi 0, vi 0, .slice none 0 0, vi 0, vi 0, vi 0, vi 0, vi 0, .slice none 0 0, vi 0, vi 0, vi 0, vi 0, vi 0, .slice none 0 0]
theorem make_many (W : World) : (Instr.makeSlice 32 (.int .i64 9) (.int .i64 9)).run Try.prog W = .ok (.slice (some ⟨W.heap.size, 0, none⟩) 9 9) (W.alloc (.cells manyCs 87)) := by
  obtain ⟨i0, hi0, hz0, hz1, hz2⟩ := info_parts Try.info87
  have h := run_make (P := Try.prog) W 32 87 i0 _ Try.underlying32 hi0 hz0 .i64 .i64 9 9 (by omega) (by omega) (by rw [hz2]; omega) (by omega)
  rw [hz1] at h
  rw [show madeCells (Value.agg #[vi 0, vi 0, vi 0, vi 0, vi 0, .slice none 0 0]).cells ((9 : Int).toNat * 6) = manyCs by kernel_rfl] at h
  exact h
set_option maxRecDepth 100000 in
set_option maxHeartbeats 16000000 in
theorem worksNames_walk (w : World) : Calls Try.prog 15 #[] w fun e w' => e = .returned (.bool true) ∧ newer w w' := by
  have H1 := Lib.hid ((Below.refl w.heap.size w : newer w w))
  go_enter Try.func15, Try.ntmps15
  go_wp2_with fail
  refine (ridge_any _).mono ?_
  rintro e w2 ⟨⟨p1, rfl, hj1, ho1, hpc1⟩, hb⟩
  have HJ1 := Lib.hid (And.intro hj1 hpc1)
  clear hj1 hpc1
  have H3 := Lib.hid (And.intro ((newer_trans H1.out hb)) (ho1))
  clear hb ho1 H1
  have hn2 := (newer_allocH w2 (.cells #[vi 0, vi 1, vi 1, vi (-1)] 3))
  have HA := Lib.hid (adds_ridge [0, 1, 1, -1] 1 2 w2.heap.size 4 (w := w2.alloc (.cells #[vi 0, vi 1, vi 1, vi (-1)] 3)) HJ1.out.1 (H3.out.2.next (newer_allocH w2 (.cells #[vi 0, vi 1, vi 1, vi (-1)] 3))) (by simp) (Whole.made w2 3 #[vi 0, vi 1, vi 1, vi (-1)]) rfl names_addsV)
  go_wp2_with fail
  refine (HA.out).mono ?_
  rintro e w4 ⟨rfl, hb0⟩
  have hb := newer_trans hn2 hb0
  clear hb0 hn2
  have H5 := Lib.hid ((newer_trans H3.out.1 hb))
  clear hb HA H3
  clear HJ1
  go_upto_region 2 with fail
  refine genQ (fun X => newer w X ∧ Whole X w4.heap.size 38 #[vi 45, vi 55]) ⟨(newer_trans H5.out (newer_allocH w4 (.cells #[vi 45, vi 55] 38))), Whole.made _ _ _⟩ ?_
  obtain ⟨qb, hqb⟩ : ∃ qb, qb = w4.heap.size := ⟨_, rfl⟩
  have Lqb := Lib.hid (show w.heap.size ≤ qb ∧ w4.heap.size ≤ qb by rw [hqb]; exact ⟨H5.out.size, Nat.le_refl _⟩)
  rw [← hqb]
  clear hqb
  rintro w6 ⟨g0_, g1_⟩
  have H7 := Lib.hid (And.intro (g0_) (g1_))
  clear g0_ g1_ H5
  go_wp2_with fail
  refine (ridge_any _).mono ?_
  rintro e w8 ⟨⟨p1, rfl, hj1, ho1, hpc1⟩, hb⟩
  have HJ1 := Lib.hid (And.intro hj1 hpc1)
  clear hj1 hpc1
  have H9 := Lib.hid (And.intro ((newer_trans H7.out.1 hb)) (And.intro ((H7.out.2.below hb H7.out.2.lt)) (ho1)))
  clear hb ho1 H7
  go_wp2_with fail
  refine (court_own HJ1.out.1 H9.out.2.2 (ridge_few HJ1.out.1) HJ1.out.2 names_court.1 names_court.2).mono ?_
  rintro e w10 ⟨⟨A1, c1, rfl, -⟩, hb⟩
  have H11 := Lib.hid (And.intro ((newer_trans H9.out.1 hb)) ((H9.out.2.1.below hb H9.out.2.1.lt)))
  clear hb H9
  clear HJ1
  go_wp2_with fail
  refine (ridge_own _).mono ?_
  rintro e w12 ⟨⟨bw, n0, v0, p0, b0, b1, b2, b3, rfl, hrm⟩, hb⟩
  have H13 := Lib.hid (And.intro ((newer_trans H11.out.1 hb)) (And.intro ((H11.out.2.below hb H11.out.2.lt)) ((hrm.more H11.out.1.size))))
  clear hb hrm H11
  go_upto_region 4 with fail
  refine genQ (fun X => newer w X ∧ Whole X qb 38 #[vi 45, vi 55] ∧ RM 0 40 50 60 w.heap.size bw n0 v0 p0 b0 b1 b2 b3 X ∧ Whole X w12.heap.size 35 #[vi 3, vi 2, .slice (some ⟨bw, 0, none⟩) 4 4, .slice (some ⟨n0, 0, none⟩) 2 2, .slice (some ⟨v0, 0, none⟩) 2 2, .slice (some ⟨p0, 0, none⟩) 3 3]) ⟨(newer_trans H13.out.1 (newer_allocH w12 (.cells #[vi 3, vi 2, .slice (some ⟨bw, 0, none⟩) 4 4, .slice (some ⟨n0, 0, none⟩) 2 2, .slice (some ⟨v0, 0, none⟩) 2 2, .slice (some ⟨p0, 0, none⟩) 3 3] 35))), (H13.out.2.1.below (newer_allocH w12 (.cells #[vi 3, vi 2, .slice (some ⟨bw, 0, none⟩) 4 4, .slice (some ⟨n0, 0, none⟩) 2 2, .slice (some ⟨v0, 0, none⟩) 2 2, .slice (some ⟨p0, 0, none⟩) 3 3] 35)) H13.out.2.1.lt), (H13.out.2.2.next (newer_allocH w12 (.cells #[vi 3, vi 2, .slice (some ⟨bw, 0, none⟩) 4 4, .slice (some ⟨n0, 0, none⟩) 2 2, .slice (some ⟨v0, 0, none⟩) 2 2, .slice (some ⟨p0, 0, none⟩) 3 3] 35))), Whole.made _ _ _⟩ ?_
  obtain ⟨pb, hpb⟩ : ∃ pb, pb = w12.heap.size := ⟨_, rfl⟩
  have Lpb := Lib.hid (show w.heap.size ≤ pb ∧ qb < pb ∧ w12.heap.size ≤ pb by rw [hpb]; exact ⟨H13.out.1.size, H13.out.2.1.lt, Nat.le_refl _⟩)
  rw [← hpb]
  clear hpb
  rintro w14 ⟨g0_, g1_, g2_, g3_⟩
  have H15 := Lib.hid (And.intro (g0_) (And.intro (g1_) (And.intro (g2_) (g3_))))
  clear g0_ g1_ g2_ g3_ H13
  have r2 := H15.out.2.2.2.at 2 (v := .slice (some ⟨bw, 0, none⟩) 4 4) rfl
  have c10 := H15.out.2.2.1.ws.at 10 (v := vi 0) rfl
  have f10 := H15.out.2.2.1.ws.free 10
  go_upto_region 5 with fail
  refine genQ (fun X => newer w X ∧ Whole X qb 38 #[vi 45, vi 55] ∧ RM 1 40 50 60 w.heap.size bw n0 v0 p0 b0 b1 b2 b3 X ∧ Whole X pb 35 #[vi 3, vi 2, .slice (some ⟨bw, 0, none⟩) 4 4, .slice (some ⟨n0, 0, none⟩) 2 2, .slice (some ⟨v0, 0, none⟩) 2 2, .slice (some ⟨p0, 0, none⟩) 3 3]) ⟨H15.out.1.setCell (p := ⟨bw, 10, none⟩) H15.out.2.2.1.lo.1 (vi 1), H15.out.2.1.far (p := ⟨bw, 10, none⟩) (whole_ne H15.out.2.1 H15.out.2.2.1.ws (by decide)) (vi 1), H15.out.2.2.1.setV 1, H15.out.2.2.2.far (p := ⟨bw, 10, none⟩) (whole_ne H15.out.2.2.2 H15.out.2.2.1.ws (by decide)) (vi 1)⟩ ?_
  rintro w16 ⟨g0_, g1_, g2_, g3_⟩
  have H17 := Lib.hid (And.intro (g0_) (And.intro (g1_) (And.intro (g2_) (g3_))))
  clear g0_ g1_ g2_ g3_ H15 r2 c10 f10
  have r0 := H17.out.2.2.2.at 0 (v := vi 3) rfl
  have r1 := H17.out.2.2.2.at 1 (v := vi 2) rfl
  have r2 := H17.out.2.2.2.at 2 (v := .slice (some ⟨bw, 0, none⟩) 4 4) rfl
  have r3 := H17.out.2.2.2.at 3 (v := .slice (some ⟨n0, 0, none⟩) 2 2) rfl
  have r4 := H17.out.2.2.2.at 4 (v := .slice (some ⟨v0, 0, none⟩) 2 2) rfl
  have r5 := H17.out.2.2.2.at 5 (v := .slice (some ⟨p0, 0, none⟩) 3 3) rfl
  have HA := Lib.hid (court_own (p := (rPm 1 40 50 60 bw n0 v0 p0 b0 b1 b2 b3)) rfl H17.out.2.2.1.ok RM.few (by simp [rPm]) names_court1.1 names_court1.2)
  go_wp2_with fail
  refine (HA.out).mono ?_
  rintro e w18 ⟨⟨A7, c7, rfl, ho7⟩, hb⟩
  have H19 := Lib.hid (And.intro ((newer_trans H17.out.1 hb)) (And.intro ((H17.out.2.1.below hb H17.out.2.1.lt)) (And.intro ((H17.out.2.2.1.next hb)) (And.intro ((H17.out.2.2.2.below hb H17.out.2.2.2.lt)) (ho7)))))
  clear hb HA H17 r0 r1 r2 r3 r4 r5
  clear ho7
  have r0 := H19.out.2.2.2.1.at 0 (v := vi 3) rfl
  have r1 := H19.out.2.2.2.1.at 1 (v := vi 2) rfl
  have r2 := H19.out.2.2.2.1.at 2 (v := .slice (some ⟨bw, 0, none⟩) 4 4) rfl
  have r3 := H19.out.2.2.2.1.at 3 (v := .slice (some ⟨n0, 0, none⟩) 2 2) rfl
  have r4 := H19.out.2.2.2.1.at 4 (v := .slice (some ⟨v0, 0, none⟩) 2 2) rfl
  have r5 := H19.out.2.2.2.1.at 5 (v := .slice (some ⟨p0, 0, none⟩) 3 3) rfl
  have HA := Lib.hid (bestE_own (p := (rPm 1 40 50 60 bw n0 v0 p0 b0 b1 b2 b3)) rfl H19.out.2.2.1.ok RM.few (by simp [rPm]) names_best1)
  go_wp2_with fail
  refine (HA.out).mono ?_
  rintro e w20 ⟨⟨A4, n4, c4, cn4, rfl⟩, hb⟩
  have H21 := Lib.hid (And.intro ((newer_trans H19.out.1 hb)) (And.intro ((H19.out.2.1.below hb H19.out.2.1.lt)) (And.intro ((H19.out.2.2.1.next hb)) (And.intro ((H19.out.2.2.2.1.below hb H19.out.2.2.2.1.lt)) (((H19.out.2.2.2.2.below hb).more hb.size))))))
  clear hb HA H19 r0 r1 r2 r3 r4 r5
  go_upto_region 7 with fail
  have q0 := H21.out.2.1.at 0 (v := vi 45) rfl
  have q1 := H21.out.2.1.at 1 (v := vi 55) rfl
  refine wp_words (by kernel_rfl) (region_told_g 51 (by kernel_rfl) (by kernel_rfl) (fun W => Below w20.heap.size w20 W) newer (pickD [vIs (vi 0), vIs (.bool false), vIs (.bool false), vIs (vi 0), vIs (.bool false), vIs (.bool false), vIs (.bool false), vIs (vi 0), vIs (.bool false), vIs (.bool false), vIs (.bool false), vIs (vi 9), vIs (.bool false), vIs (.bool false), vIs (.bool false), vIs (.agg #[vi 45, vi 55]), vIs (.agg #[vi 45, vi 55]), vIs (.bool false), vIs (.bool false), vIs (.bool false), vIs (.slice A1 0 c1), vIs (vi 0), vIs (.bool false), vIs (.bool false), vIs (.bool false), vIs (.slice A7 1 c7), vArr w20.heap.size 1 #[vi 1], vIs (.bool true), vIs (.bool false), vIs (.bool false), vIs (.bool false), vRidge, vArr w20.heap.size 4 #[vi (-1), vi 0, vi 1, vi (-1)], vIs (.bool true), vIs (.bool false), vIs (.bool false), vIs (.bool false), vRidge, vArr w20.heap.size 4 #[vi (-1), vi 1, vi 1, vi (-1)], vIs (.bool true), vIs (.bool false), vIs (.bool false), vIs (.bool false), vRidge, vArr w20.heap.size 4 #[vi (-1), vi 0, vi 0, vi (-1)], vIs (.bool false), vIs (.bool false), vIs (.bool false), vRidge, vArr w20.heap.size 4 #[vi (-1), vi 1, vi 1, vi 2], vIs (.bool false)]) ⟨trivial, trivial, trivial, (fun _ _ h => h), (fun _ _ h => h), trivial, trivial, (fun _ _ h => h), (fun _ _ h => h), trivial, trivial, (fun _ _ h => h), (fun _ _ h => h), trivial, trivial, (fun _ _ h => h), (fun _ _ h => h), (fun _ _ h => h), trivial, trivial, (fun _ _ h => h), (fun _ _ h => h), (fun _ _ h => h), trivial, trivial, (fun _ _ h => h), (fun _ _ h => h), (fun _ _ h => h), (fun _ _ h => h), trivial, trivial, (fun _ _ h => h), (fun _ _ h => h), (fun _ _ h => h), (fun _ _ h => h), trivial, trivial, (fun _ _ h => h), (fun _ _ h => h), (fun _ _ h => h), (fun _ _ h => h), trivial, trivial, (fun _ _ h => h), (fun _ _ h => h), (fun _ _ h => h), trivial, trivial, (fun _ _ h => h), (fun _ _ h => h), (fun _ _ h => h), trivial⟩ (fun h k => newer_trans h k) (pickD_stable _ ⟨vIs_st, vIs_st, vIs_st, vIs_st, vIs_st, vIs_st, vIs_st, vIs_st, vIs_st, vIs_st, vIs_st, vIs_st, vIs_st, vIs_st, vIs_st, vIs_st, vIs_st, vIs_st, vIs_st, vIs_st, vIs_st, vIs_st, vIs_st, vIs_st, vIs_st, vIs_st, vArr_st, vIs_st, vIs_st, vIs_st, vIs_st, vRidge_st, vArr_st, vIs_st, vIs_st, vIs_st, vIs_st, vRidge_st, vArr_st, vIs_st, vIs_st, vIs_st, vIs_st, vRidge_st, vArr_st, vIs_st, vIs_st, vIs_st, vRidge_st, vArr_st, vIs_st, trivial⟩) (Below.refl _ w20).drew (Below.refl _ _) ?_ ?_)
  · refine ⟨?_, ?_, ?_, ?_, ?_, ?_, ?_, ?_, ?_, ?_, ?_, ?_, ?_, ?_, ?_, ?_, ?_, ?_, ?_, ?_, ?_, ?_, ?_, ?_, ?_, ?_, ?_, ?_, ?_, ?_, ?_, ?_, ?_, ?_, ?_, ?_, ?_, ?_, ?_, ?_, ?_, ?_, ?_, ?_, ?_, ?_, ?_, ?_, ?_, ?_, ?_, trivial⟩
    · intro a W hG hR hO hp
      have h2 := hO.slot 2 (by kernel_rfl)
      refine wp_yields (v := vi 0) ?_ ⟨_, rfl, rfl, Below.refl _ _, hG⟩
      simp [slotOf] at h2
      simp [execOp, go_sem, h2]
    · intro a W hG hR hO hp
      have h46 : slotOf a 46 = vi 0 := hp.1
      refine wp_yields (v := .bool false) ?_ ⟨_, rfl, rfl, Below.refl _ _, hG⟩
      simp [slotOf] at h46
      simp [execOp, go_sem, h46]
    · intro a W hG hR hO hp
      have h47 : slotOf a 47 = .bool false := hp.1
      refine wp_yields (v := .bool false) ?_ ⟨_, rfl, rfl, Below.refl _ _, hG⟩
      simp [slotOf] at h47
      simp [execOp, go_sem, h47]
    · intro a W hG hR hO hp
      have h4 := hO.slot 4 (by kernel_rfl)
      refine wp_yields (v := vi 0) ?_ ⟨_, rfl, rfl, Below.refl _ _, hG⟩
      simp [slotOf] at h4
      simp [execOp, go_sem, h4]
    · intro a W hG hR hO hp
      have h49 : slotOf a 49 = vi 0 := hp.1
      refine wp_yields (v := .bool false) ?_ ⟨_, rfl, rfl, Below.refl _ _, hG⟩
      simp [slotOf] at h49
      simp [execOp, go_sem, h49]
    · intro a W hG hR hO hp
      have h48 : slotOf a 48 = .bool false := hp.1
      have h50 : slotOf a 50 = .bool false := hp.2.1
      refine wp_yields (v := .bool false) ?_ ⟨_, rfl, rfl, Below.refl _ _, hG⟩
      simp [slotOf] at h48 h50
      simp [execOp, go_sem, h48, h50]
    · intro a W hG hR hO hp
      have h51 : slotOf a 51 = .bool false := hp.1
      refine wp_yields (v := .bool false) ?_ ⟨_, rfl, rfl, Below.refl _ _, hG⟩
      simp [slotOf] at h51
      simp [execOp, go_sem, h51]
    · intro a W hG hR hO hp
      have h7 := hO.slot 7 (by kernel_rfl)
      refine wp_yields (v := vi 0) ?_ ⟨_, rfl, rfl, Below.refl _ _, hG⟩
      simp [slotOf] at h7
      simp [execOp, go_sem, h7]
    · intro a W hG hR hO hp
      have h53 : slotOf a 53 = vi 0 := hp.1
      refine wp_yields (v := .bool false) ?_ ⟨_, rfl, rfl, Below.refl _ _, hG⟩
      simp [slotOf] at h53
      simp [execOp, go_sem, h53]
    · intro a W hG hR hO hp
      have h52 : slotOf a 52 = .bool false := hp.1
      have h54 : slotOf a 54 = .bool false := hp.2.1
      refine wp_yields (v := .bool false) ?_ ⟨_, rfl, rfl, Below.refl _ _, hG⟩
      simp [slotOf] at h52 h54
      simp [execOp, go_sem, h52, h54]
    · intro a W hG hR hO hp
      have h55 : slotOf a 55 = .bool false := hp.1
      refine wp_yields (v := .bool false) ?_ ⟨_, rfl, rfl, Below.refl _ _, hG⟩
      simp [slotOf] at h55
      simp [execOp, go_sem, h55]
    · intro a W hG hR hO hp
      have h10 := hO.slot 10 (by kernel_rfl)
      refine wp_yields (v := vi 9) ?_ ⟨_, rfl, rfl, Below.refl _ _, hG⟩
      simp [slotOf] at h10
      simp [execOp, go_sem, h10]
    · intro a W hG hR hO hp
      have h57 : slotOf a 57 = vi 9 := hp.1
      refine wp_yields (v := .bool false) ?_ ⟨_, rfl, rfl, Below.refl _ _, hG⟩
      simp [slotOf] at h57
      simp [execOp, go_sem, h57]
    · intro a W hG hR hO hp
      have h56 : slotOf a 56 = .bool false := hp.1
      have h58 : slotOf a 58 = .bool false := hp.2.1
      refine wp_yields (v := .bool false) ?_ ⟨_, rfl, rfl, Below.refl _ _, hG⟩
      simp [slotOf] at h56 h58
      simp [execOp, go_sem, h56, h58]
    · intro a W hG hR hO hp
      have h59 : slotOf a 59 = .bool false := hp.1
      refine wp_yields (v := .bool false) ?_ ⟨_, rfl, rfl, Below.refl _ _, hG⟩
      simp [slotOf] at h59
      simp [execOp, go_sem, h59]
    · intro a W hG hR hO hp
      have h1 := hO.slot 1 (by kernel_rfl)
      have c0 := keep_cell q0 hG
      have c1 := keep_cell q1 hG
      refine wp_yields (v := .agg #[vi 45, vi 55]) ?_ ⟨_, rfl, rfl, Below.refl _ _, hG⟩
      simp [slotOf] at h1
      simp [execOp, go_sem, h1, c0, c1]
    · intro a W hG hR hO hp
      refine wp_enters (f := 46) (args := #[.int .i64 45, .int .i64 55]) ?_ ((span_any 45 55 W).mono ?_)
      · skip
        simp [go_sem]
      · rintro e w' ⟨rfl, hb⟩
        exact ⟨_, rfl, _, rfl, rfl, hb, below_next hG hb⟩
    · intro a W hG hR hO hp
      have h61 : slotOf a 61 = .agg #[vi 45, vi 55] := hp.1
      have h62 : slotOf a 62 = .agg #[vi 45, vi 55] := hp.2.1
      refine wp_yields (v := .bool false) ?_ ⟨_, rfl, rfl, Below.refl _ _, hG⟩
      exact exec_ne38 rfl ((eval_slot a 61).trans h61) ((eval_slot a 62).trans h62)
    · intro a W hG hR hO hp
      have h60 : slotOf a 60 = .bool false := hp.1
      have h63 : slotOf a 63 = .bool false := hp.2.1
      refine wp_yields (v := .bool false) ?_ ⟨_, rfl, rfl, Below.refl _ _, hG⟩
      simp [slotOf] at h60 h63
      simp [execOp, go_sem, h60, h63]
    · intro a W hG hR hO hp
      have h64 : slotOf a 64 = .bool false := hp.1
      refine wp_yields (v := .bool false) ?_ ⟨_, rfl, rfl, Below.refl _ _, hG⟩
      simp [slotOf] at h64
      simp [execOp, go_sem, h64]
    · intro a W hG hR hO hp
      have h3 := hO.slot 3 (by kernel_rfl)
      refine wp_yields (v := .slice A1 0 c1) ?_ ⟨_, rfl, rfl, Below.refl _ _, hG⟩
      simp [slotOf] at h3
      simp [execOp, go_sem, h3]
    · intro a W hG hR hO hp
      have h66 : slotOf a 66 = .slice A1 0 c1 := hp.1
      refine wp_yields (v := vi 0) ?_ ⟨_, rfl, rfl, Below.refl _ _, hG⟩
      simp [slotOf] at h66
      simp [go_sem, h66]
    · intro a W hG hR hO hp
      have h67 : slotOf a 67 = vi 0 := hp.1
      refine wp_yields (v := .bool false) ?_ ⟨_, rfl, rfl, Below.refl _ _, hG⟩
      simp [slotOf] at h67
      simp [execOp, go_sem, h67]
    · intro a W hG hR hO hp
      have h65 : slotOf a 65 = .bool false := hp.1
      have h68 : slotOf a 68 = .bool false := hp.2.1
      refine wp_yields (v := .bool false) ?_ ⟨_, rfl, rfl, Below.refl _ _, hG⟩
      simp [slotOf] at h65 h68
      simp [execOp, go_sem, h65, h68]
    · intro a W hG hR hO hp
      have h69 : slotOf a 69 = .bool false := hp.1
      refine wp_yields (v := .bool false) ?_ ⟨_, rfl, rfl, Below.refl _ _, hG⟩
      simp [slotOf] at h69
      simp [execOp, go_sem, h69]
    · intro a W hG hR hO hp
      have h6 := hO.slot 6 (by kernel_rfl)
      refine wp_yields (v := .slice A7 1 c7) ?_ ⟨_, rfl, rfl, Below.refl _ _, hG⟩
      simp [slotOf] at h6
      simp [execOp, go_sem, h6]
    · intro a W hG hR hO hp
      refine wp_makes (v := .slice (some ⟨W.heap.size, 0, none⟩) 1 1) (W' := W.alloc (.cells #[vi 1] 3)) ?_ ⟨_, rfl, ⟨_, rfl, hG.size, Whole.made _ _ _⟩, newer_allocH _ _, hG.alloc hG.size _⟩
      simp [execOp, go_sem]
    · intro a W hG hR hO hp
      have h71 : slotOf a 71 = .slice A7 1 c7 := hp.1
      have h72 := hp.2.1
      obtain ⟨nb, h72, hnb, hW⟩ := h72
      refine wp_enters (f := 29) (args := #[.slice A7 1 c7, .slice (some ⟨nb, 0, none⟩) 1 1]) ?_ ((lawInts [1] [1] A7 (some ⟨nb, 0, none⟩) c7 1 W (by simp) (by simp) ((H21.out.2.2.2.2.below hG).more hG.size) (row_of_whole (enc := intL) (s := 1) (fun _ => rfl) hW rfl)).mono ?_)
      · simp [slotOf] at h71 h72
        simp [go_sem, h71, h72]
      · rintro e w' ⟨rfl, hb⟩
        exact ⟨_, rfl, _, rfl, rfl, hb, below_next hG hb⟩
    · intro a W hG hR hO hp
      have h73 : slotOf a 73 = .bool true := hp.1
      refine wp_yields (v := .bool false) ?_ ⟨_, rfl, rfl, Below.refl _ _, hG⟩
      simp [slotOf] at h73
      simp [execOp, go_sem, h73]
    · intro a W hG hR hO hp
      have h70 : slotOf a 70 = .bool false := hp.1
      have h74 : slotOf a 74 = .bool false := hp.2.1
      refine wp_yields (v := .bool false) ?_ ⟨_, rfl, rfl, Below.refl _ _, hG⟩
      simp [slotOf] at h70 h74
      simp [execOp, go_sem, h70, h74]
    · intro a W hG hR hO hp
      have h75 : slotOf a 75 = .bool false := hp.1
      refine wp_yields (v := .bool false) ?_ ⟨_, rfl, rfl, Below.refl _ _, hG⟩
      simp [slotOf] at h75
      simp [execOp, go_sem, h75]
    · intro a W hG hR hO hp
      refine wp_enters (f := 45) (args := #[]) ?_ ((ridge_any W).mono ?_)
      · simp [go_sem]
      · rintro e w' ⟨⟨p, rfl, h1, h2, h3⟩, hb⟩
        exact ⟨_, rfl, _, rfl, ⟨p, rfl, h1, h2, h3⟩, hb, below_next hG hb⟩
    · intro a W hG hR hO hp
      refine wp_makes (v := .slice (some ⟨W.heap.size, 0, none⟩) 4 4) (W' := W.alloc (.cells #[vi (-1), vi 0, vi 1, vi (-1)] 3)) ?_ ⟨_, rfl, ⟨_, rfl, hG.size, Whole.made _ _ _⟩, newer_allocH _ _, hG.alloc hG.size _⟩
      simp [execOp, go_sem]
    · intro a W hG hR hO hp
      have h77 := hp.1
      have h78 := hp.2.1
      obtain ⟨p, h77, hj, ho, hc⟩ := h77
      obtain ⟨nb, h78, hnb, hW⟩ := h78
      refine wp_enters (f := 37) (args := #[pmV p, .slice (some ⟨nb, 0, none⟩) 4 4]) ?_ ((suff_ridge [-1, 0, 1, -1] nb 4 hj ho hc (by simp) hW rfl names_suff.1).mono ?_)
      · simp [slotOf] at h77 h78
        simp [go_sem, h77, h78]
      · rintro e w' ⟨rfl, hb⟩
        exact ⟨_, rfl, _, rfl, rfl, hb, below_next hG hb⟩
    · intro a W hG hR hO hp
      have h79 : slotOf a 79 = .bool true := hp.1
      refine wp_yields (v := .bool false) ?_ ⟨_, rfl, rfl, Below.refl _ _, hG⟩
      simp [slotOf] at h79
      simp [execOp, go_sem, h79]
    · intro a W hG hR hO hp
      have h76 : slotOf a 76 = .bool false := hp.1
      have h80 : slotOf a 80 = .bool false := hp.2.1
      refine wp_yields (v := .bool false) ?_ ⟨_, rfl, rfl, Below.refl _ _, hG⟩
      simp [slotOf] at h76 h80
      simp [execOp, go_sem, h76, h80]
    · intro a W hG hR hO hp
      have h81 : slotOf a 81 = .bool false := hp.1
      refine wp_yields (v := .bool false) ?_ ⟨_, rfl, rfl, Below.refl _ _, hG⟩
      simp [slotOf] at h81
      simp [execOp, go_sem, h81]
    · intro a W hG hR hO hp
      refine wp_enters (f := 45) (args := #[]) ?_ ((ridge_any W).mono ?_)
      · simp [go_sem]
      · rintro e w' ⟨⟨p, rfl, h1, h2, h3⟩, hb⟩
        exact ⟨_, rfl, _, rfl, ⟨p, rfl, h1, h2, h3⟩, hb, below_next hG hb⟩
    · intro a W hG hR hO hp
      refine wp_makes (v := .slice (some ⟨W.heap.size, 0, none⟩) 4 4) (W' := W.alloc (.cells #[vi (-1), vi 1, vi 1, vi (-1)] 3)) ?_ ⟨_, rfl, ⟨_, rfl, hG.size, Whole.made _ _ _⟩, newer_allocH _ _, hG.alloc hG.size _⟩
      simp [execOp, go_sem]
    · intro a W hG hR hO hp
      have h83 := hp.1
      have h84 := hp.2.1
      obtain ⟨p, h83, hj, ho, hc⟩ := h83
      obtain ⟨nb, h84, hnb, hW⟩ := h84
      refine wp_enters (f := 37) (args := #[pmV p, .slice (some ⟨nb, 0, none⟩) 4 4]) ?_ ((suff_ridge [-1, 1, 1, -1] nb 4 hj ho hc (by simp) hW rfl names_suff.2.1).mono ?_)
      · simp [slotOf] at h83 h84
        simp [go_sem, h83, h84]
      · rintro e w' ⟨rfl, hb⟩
        exact ⟨_, rfl, _, rfl, rfl, hb, below_next hG hb⟩
    · intro a W hG hR hO hp
      have h85 : slotOf a 85 = .bool true := hp.1
      refine wp_yields (v := .bool false) ?_ ⟨_, rfl, rfl, Below.refl _ _, hG⟩
      simp [slotOf] at h85
      simp [execOp, go_sem, h85]
    · intro a W hG hR hO hp
      have h82 : slotOf a 82 = .bool false := hp.1
      have h86 : slotOf a 86 = .bool false := hp.2.1
      refine wp_yields (v := .bool false) ?_ ⟨_, rfl, rfl, Below.refl _ _, hG⟩
      simp [slotOf] at h82 h86
      simp [execOp, go_sem, h82, h86]
    · intro a W hG hR hO hp
      have h87 : slotOf a 87 = .bool false := hp.1
      refine wp_yields (v := .bool false) ?_ ⟨_, rfl, rfl, Below.refl _ _, hG⟩
      simp [slotOf] at h87
      simp [execOp, go_sem, h87]
    · intro a W hG hR hO hp
      refine wp_enters (f := 45) (args := #[]) ?_ ((ridge_any W).mono ?_)
      · simp [go_sem]
      · rintro e w' ⟨⟨p, rfl, h1, h2, h3⟩, hb⟩
        exact ⟨_, rfl, _, rfl, ⟨p, rfl, h1, h2, h3⟩, hb, below_next hG hb⟩
    · intro a W hG hR hO hp
      refine wp_makes (v := .slice (some ⟨W.heap.size, 0, none⟩) 4 4) (W' := W.alloc (.cells #[vi (-1), vi 0, vi 0, vi (-1)] 3)) ?_ ⟨_, rfl, ⟨_, rfl, hG.size, Whole.made _ _ _⟩, newer_allocH _ _, hG.alloc hG.size _⟩
      simp [execOp, go_sem]
    · intro a W hG hR hO hp
      have h89 := hp.1
      have h90 := hp.2.1
      obtain ⟨p, h89, hj, ho, hc⟩ := h89
      obtain ⟨nb, h90, hnb, hW⟩ := h90
      refine wp_enters (f := 37) (args := #[pmV p, .slice (some ⟨nb, 0, none⟩) 4 4]) ?_ ((suff_ridge [-1, 0, 0, -1] nb 4 hj ho hc (by simp) hW rfl names_suff.2.2.1).mono ?_)
      · simp [slotOf] at h89 h90
        simp [go_sem, h89, h90]
      · rintro e w' ⟨rfl, hb⟩
        exact ⟨_, rfl, _, rfl, rfl, hb, below_next hG hb⟩
    · intro a W hG hR hO hp
      have h88 : slotOf a 88 = .bool false := hp.1
      have h91 : slotOf a 91 = .bool false := hp.2.1
      refine wp_yields (v := .bool false) ?_ ⟨_, rfl, rfl, Below.refl _ _, hG⟩
      simp [slotOf] at h88 h91
      simp [execOp, go_sem, h88, h91]
    · intro a W hG hR hO hp
      have h92 : slotOf a 92 = .bool false := hp.1
      refine wp_yields (v := .bool false) ?_ ⟨_, rfl, rfl, Below.refl _ _, hG⟩
      simp [slotOf] at h92
      simp [execOp, go_sem, h92]
    · intro a W hG hR hO hp
      refine wp_enters (f := 45) (args := #[]) ?_ ((ridge_any W).mono ?_)
      · simp [go_sem]
      · rintro e w' ⟨⟨p, rfl, h1, h2, h3⟩, hb⟩
        exact ⟨_, rfl, _, rfl, ⟨p, rfl, h1, h2, h3⟩, hb, below_next hG hb⟩
    · intro a W hG hR hO hp
      refine wp_makes (v := .slice (some ⟨W.heap.size, 0, none⟩) 4 4) (W' := W.alloc (.cells #[vi (-1), vi 1, vi 1, vi 2] 3)) ?_ ⟨_, rfl, ⟨_, rfl, hG.size, Whole.made _ _ _⟩, newer_allocH _ _, hG.alloc hG.size _⟩
      simp [execOp, go_sem]
    · intro a W hG hR hO hp
      have h94 := hp.1
      have h95 := hp.2.1
      obtain ⟨p, h94, hj, ho, hc⟩ := h94
      obtain ⟨nb, h95, hnb, hW⟩ := h95
      refine wp_enters (f := 37) (args := #[pmV p, .slice (some ⟨nb, 0, none⟩) 4 4]) ?_ ((suff_ridge [-1, 1, 1, 2] nb 4 hj ho hc (by simp) hW rfl names_suff.2.2.2).mono ?_)
      · simp [slotOf] at h94 h95
        simp [go_sem, h94, h95]
      · rintro e w' ⟨rfl, hb⟩
        exact ⟨_, rfl, _, rfl, rfl, hb, below_next hG hb⟩
  · intro wz hG hR
    rintro _ rfl _ rfl _ rfl _ rfl _ rfl _ rfl _ rfl _ rfl _ rfl _ rfl _ rfl _ rfl _ rfl _ rfl _ rfl _ rfl _ rfl _ rfl _ rfl _ rfl _ rfl _ rfl _ rfl _ rfl _ rfl _ rfl _ hv72 _ rfl _ rfl _ rfl _ rfl _ hv77 _ hv78 _ rfl _ rfl _ rfl _ rfl _ hv83 _ hv84 _ rfl _ rfl _ rfl _ rfl _ hv89 _ hv90 _ rfl _ rfl _ rfl _ hv94 _ hv95 _ rfl
    change wpList _ _ _ _ _ _
    simp only [Act.put, List.setIfInBounds_toArray, List.set_cons_zero, List.set_cons_succ, List.drop_succ_cons, List.drop_zero]
    clear hR hv72 hv77 hv78 hv83 hv84 hv89 hv90 hv94 hv95
    have H22 := Lib.hid (And.intro ((newer_trans H21.out.1 hG)) (And.intro ((H21.out.2.2.1.next hG)) ((H21.out.2.2.2.1.below hG H21.out.2.2.2.1.lt))))
    clear hG H21 q0 q1
    go_wp2_with fail
    refine (ridge_any _).mono ?_
    rintro e w23 ⟨⟨p1, rfl, hj1, ho1, hpc1⟩, hb⟩
    have HJ1 := Lib.hid (And.intro hj1 hpc1)
    clear hj1 hpc1
    have H24 := Lib.hid (And.intro ((newer_trans H22.out.1 hb)) (And.intro ((H22.out.2.1.next hb)) (And.intro ((H22.out.2.2.below hb H22.out.2.2.lt)) (ho1))))
    clear hb ho1 H22
    have hn2 := (newer_allocH w23 (.cells #[vi 0, vi 750] 3))
    have HA := Lib.hid (prove_ridge [0, 750] 31 w23.heap.size 2 (w := w23.alloc (.cells #[vi 0, vi 750] 3)) HJ1.out.1 (H24.out.2.2.2.next (newer_allocH w23 (.cells #[vi 0, vi 750] 3))) (by simp) (Whole.made w23 3 #[vi 0, vi 750]) rfl names_bound.1)
    go_wp2_with fail
    refine (HA.out).mono ?_
    rintro e w25 ⟨rfl, hb0⟩
    have hb := newer_trans hn2 hb0
    clear hb0 hn2
    have H26 := Lib.hid (And.intro ((newer_trans H24.out.1 hb)) (And.intro ((H24.out.2.1.next hb)) ((H24.out.2.2.1.below hb H24.out.2.2.1.lt))))
    clear hb HA H24
    clear HJ1
    go_wp2_with fail
    refine (ridge_any _).mono ?_
    rintro e w27 ⟨⟨p1, rfl, hj1, ho1, hpc1⟩, hb⟩
    have HJ1 := Lib.hid (And.intro hj1 hpc1)
    clear hj1 hpc1
    have H28 := Lib.hid (And.intro ((newer_trans H26.out.1 hb)) (And.intro ((H26.out.2.1.next hb)) (And.intro ((H26.out.2.2.below hb H26.out.2.2.lt)) (ho1))))
    clear hb ho1 H26
    have hn2 := (newer_allocH w27 (.cells #[vi 0, vi 751] 3))
    have HA := Lib.hid (prove_ridge [0, 751] 31 w27.heap.size 2 (w := w27.alloc (.cells #[vi 0, vi 751] 3)) HJ1.out.1 (H28.out.2.2.2.next (newer_allocH w27 (.cells #[vi 0, vi 751] 3))) (by simp) (Whole.made w27 3 #[vi 0, vi 751]) rfl names_bound.2.1)
    go_wp2_with fail
    refine (HA.out).mono ?_
    rintro e w29 ⟨rfl, hb0⟩
    have hb := newer_trans hn2 hb0
    clear hb0 hn2
    have H30 := Lib.hid (And.intro ((newer_trans H28.out.1 hb)) (And.intro ((H28.out.2.1.next hb)) ((H28.out.2.2.1.below hb H28.out.2.2.1.lt))))
    clear hb HA H28
    clear HJ1
    go_wp2_with fail
    refine (ridge_any _).mono ?_
    rintro e w31 ⟨⟨p1, rfl, hj1, ho1, hpc1⟩, hb⟩
    have HJ1 := Lib.hid (And.intro hj1 hpc1)
    clear hj1 hpc1
    have H32 := Lib.hid (And.intro ((newer_trans H30.out.1 hb)) (And.intro ((H30.out.2.1.next hb)) (And.intro ((H30.out.2.2.below hb H30.out.2.2.lt)) (ho1))))
    clear hb ho1 H30
    have hn2 := (newer_allocH w31 (.cells #[vi 0] 3))
    have HA := Lib.hid (prove_ridge [0] 0 w31.heap.size 1 (w := w31.alloc (.cells #[vi 0] 3)) HJ1.out.1 (H32.out.2.2.2.next (newer_allocH w31 (.cells #[vi 0] 3))) (by simp) (Whole.made w31 3 #[vi 0]) rfl names_bound.2.2.1)
    go_wp2_with fail
    refine (HA.out).mono ?_
    rintro e w33 ⟨rfl, hb0⟩
    have hb := newer_trans hn2 hb0
    clear hb0 hn2
    have H34 := Lib.hid (And.intro ((newer_trans H32.out.1 hb)) (And.intro ((H32.out.2.1.next hb)) ((H32.out.2.2.1.below hb H32.out.2.2.1.lt))))
    clear hb HA H32
    clear HJ1
    go_wp2_with fail
    refine (ridge_any _).mono ?_
    rintro e w35 ⟨⟨p1, rfl, hj1, ho1, hpc1⟩, hb⟩
    have HJ1 := Lib.hid (And.intro hj1 hpc1)
    clear hj1 hpc1
    have H36 := Lib.hid (And.intro ((newer_trans H34.out.1 hb)) (And.intro ((H34.out.2.1.next hb)) (And.intro ((H34.out.2.2.below hb H34.out.2.2.lt)) (ho1))))
    clear hb ho1 H34
    have hn2 := (newer_allocH w35 (.cells #[vi (-1), vi 0] 3))
    have HA := Lib.hid (prove_ridge [(-1), 0] 0 w35.heap.size 2 (w := w35.alloc (.cells #[vi (-1), vi 0] 3)) HJ1.out.1 (H36.out.2.2.2.next (newer_allocH w35 (.cells #[vi (-1), vi 0] 3))) (by simp) (Whole.made w35 3 #[vi (-1), vi 0]) rfl names_bound.2.2.2.1)
    go_wp2_with fail
    refine (HA.out).mono ?_
    rintro e w37 ⟨rfl, hb0⟩
    have hb := newer_trans hn2 hb0
    clear hb0 hn2
    have H38 := Lib.hid (And.intro ((newer_trans H36.out.1 hb)) (And.intro ((H36.out.2.1.next hb)) ((H36.out.2.2.1.below hb H36.out.2.2.1.lt))))
    clear hb HA H36
    clear HJ1
    go_wp2_with fail
    refine (ridge_any _).mono ?_
    rintro e w39 ⟨⟨p1, rfl, hj1, ho1, hpc1⟩, hb⟩
    have HJ1 := Lib.hid (And.intro hj1 hpc1)
    clear hj1 hpc1
    have H40 := Lib.hid (And.intro ((newer_trans H38.out.1 hb)) (And.intro ((H38.out.2.1.next hb)) (And.intro ((H38.out.2.2.below hb H38.out.2.2.lt)) (ho1))))
    clear hb ho1 H38
    have hn2 := (newer_allocH w39 (.cells #[vi 0, vi 0] 3))
    have HA := Lib.hid (prove_ridge [0, 0] 0 w39.heap.size 2 (w := w39.alloc (.cells #[vi 0, vi 0] 3)) HJ1.out.1 (H40.out.2.2.2.next (newer_allocH w39 (.cells #[vi 0, vi 0] 3))) (by simp) (Whole.made w39 3 #[vi 0, vi 0]) rfl names_bound.2.2.2.2)
    go_wp2_with fail
    refine (HA.out).mono ?_
    rintro e w41 ⟨rfl, hb0⟩
    have hb := newer_trans hn2 hb0
    clear hb0 hn2
    have H42 := Lib.hid (And.intro ((newer_trans H40.out.1 hb)) (And.intro ((H40.out.2.1.next hb)) ((H40.out.2.2.1.below hb H40.out.2.2.1.lt))))
    clear hb HA H40
    clear HJ1
    go_wp2_with fail
    refine (ridge_any _).mono ?_
    rintro e w43 ⟨⟨p1, rfl, hj1, ho1, hpc1⟩, hb⟩
    have HJ1 := Lib.hid (And.intro hj1 hpc1)
    clear hj1 hpc1
    have H44 := Lib.hid (And.intro ((newer_trans H42.out.1 hb)) (And.intro ((H42.out.2.1.next hb)) (And.intro ((H42.out.2.2.below hb H42.out.2.2.lt)) (ho1))))
    clear hb ho1 H42
    have hn2 := (newer_allocH w43 (.cells #[vi 2, vi (-1), vi (-1), vi (-1)] 3))
    have HA := Lib.hid (adds_ridge [2, (-1), (-1), (-1)] 0 0 w43.heap.size 4 (w := w43.alloc (.cells #[vi 2, vi (-1), vi (-1), vi (-1)] 3)) HJ1.out.1 (H44.out.2.2.2.next (newer_allocH w43 (.cells #[vi 2, vi (-1), vi (-1), vi (-1)] 3))) (by simp) (Whole.made w43 3 #[vi 2, vi (-1), vi (-1), vi (-1)]) rfl names_badV.1)
    go_wp2_with fail
    refine (HA.out).mono ?_
    rintro e w45 ⟨rfl, hb0⟩
    have hb := newer_trans hn2 hb0
    clear hb0 hn2
    have H46 := Lib.hid (And.intro ((newer_trans H44.out.1 hb)) (And.intro ((H44.out.2.1.next hb)) ((H44.out.2.2.1.below hb H44.out.2.2.1.lt))))
    clear hb HA H44
    clear HJ1
    go_wp2_with fail
    refine (ridge_any _).mono ?_
    rintro e w47 ⟨⟨p1, rfl, hj1, ho1, hpc1⟩, hb⟩
    have HJ1 := Lib.hid (And.intro hj1 hpc1)
    clear hj1 hpc1
    have H48 := Lib.hid (And.intro ((newer_trans H46.out.1 hb)) (And.intro ((H46.out.2.1.next hb)) (And.intro ((H46.out.2.2.below hb H46.out.2.2.lt)) (ho1))))
    clear hb ho1 H46
    have hn2 := (newer_allocH w47 (.cells #[vi (-1), vi (-1), vi (-1), vi (-1)] 3))
    have HA := Lib.hid (adds_ridge [(-1), (-1), (-1), (-1)] 2 0 w47.heap.size 4 (w := w47.alloc (.cells #[vi (-1), vi (-1), vi (-1), vi (-1)] 3)) HJ1.out.1 (H48.out.2.2.2.next (newer_allocH w47 (.cells #[vi (-1), vi (-1), vi (-1), vi (-1)] 3))) (by simp) (Whole.made w47 3 #[vi (-1), vi (-1), vi (-1), vi (-1)]) rfl names_badV.2)
    go_wp2_with fail
    refine (HA.out).mono ?_
    rintro e w49 ⟨rfl, hb0⟩
    have hb := newer_trans hn2 hb0
    clear hb0 hn2
    have H50 := Lib.hid (And.intro ((newer_trans H48.out.1 hb)) (And.intro ((H48.out.2.1.next hb)) ((H48.out.2.2.1.below hb H48.out.2.2.1.lt))))
    clear hb HA H48
    clear HJ1
    go_wp2_with fail
    refine (ridge_any _).mono ?_
    rintro e w51 ⟨⟨p1, rfl, hj1, ho1, hpc1⟩, hb⟩
    have HJ1 := Lib.hid (And.intro hj1 hpc1)
    clear hj1 hpc1
    have H52 := Lib.hid (And.intro ((newer_trans H50.out.1 hb)) (And.intro ((H50.out.2.1.next hb)) (And.intro ((H50.out.2.2.below hb H50.out.2.2.lt)) (ho1))))
    clear hb ho1 H50
    have hn2 := (newer_allocH w51 (.cells #[vi (-1)] 3))
    have HA := Lib.hid (miss_ridge [-1] w51.heap.size 1 (w := w51.alloc (.cells #[vi (-1)] 3)) HJ1.out.1 (H52.out.2.2.2.next (newer_allocH w51 (.cells #[vi (-1)] 3))) (by simp) (Whole.made w51 3 #[vi (-1)]) rfl names_bad.2.2)
    go_wp2_with fail
    refine (HA.out).mono ?_
    rintro e w53 ⟨⟨A5, n5, c5, rfl⟩, hb0⟩
    have hb := newer_trans hn2 hb0
    clear hb0 hn2
    have H54 := Lib.hid (And.intro ((newer_trans H52.out.1 hb)) (And.intro ((H52.out.2.1.next hb)) ((H52.out.2.2.1.below hb H52.out.2.2.1.lt))))
    clear hb HA H52
    clear HJ1
    go_upto_region 14 with fail
    have r2 := H54.out.2.2.at 2 (v := .slice (some ⟨bw, 0, none⟩) 4 4) rfl
    have c5_ := H54.out.2.1.ws.at 5 (v := .slice (some ⟨b0, 0, none⟩) 2 2) rfl
    refine wp_words (by kernel_rfl) (region_told 6 (by kernel_rfl) (by kernel_rfl) (fun W => Below w53.heap.size w53 W) newer (pickD [vIs (.pointer (some ⟨pb, 2, none⟩)), vIs (.slice (some ⟨bw, 0, none⟩) 4 4), vIs (.pointer (some ⟨bw, 0, none⟩)), vIs (.pointer (some ⟨bw, 5, none⟩)), vIs (.slice (some ⟨b0, 0, none⟩) 2 2), vIs (.agg #[vi 10001, vi 10001])]) (fun h k => newer_trans h k) (pickD_stable _ ⟨vIs_st, vIs_st, vIs_st, vIs_st, vIs_st, vIs_st, trivial⟩) (Below.refl _ w53).drew (Below.refl _ _) ?_ ?_)
    · refine ⟨?_, ?_, ?_, ?_, ?_, ?_, trivial⟩
      · intro a W hG hR hO hp
        have h5 := hO.slot 5 (by kernel_rfl)
        refine wp_yields (v := .pointer (some ⟨pb, 2, none⟩)) ?_ ⟨_, rfl, rfl, Below.refl _ _, hG⟩
        simp [slotOf] at h5
        simp [execOp, go_sem, h5]
      · intro a W hG hR hO hp
        have h140 : slotOf a 140 = .pointer (some ⟨pb, 2, none⟩) := hp.1
        have c0 := keep_cell r2 hG
        refine wp_yields (v := .slice (some ⟨bw, 0, none⟩) 4 4) ?_ ⟨_, rfl, rfl, Below.refl _ _, hG⟩
        simp [slotOf] at h140
        simp [execOp, go_sem, h140, c0]
      · intro a W hG hR hO hp
        have h141 : slotOf a 141 = .slice (some ⟨bw, 0, none⟩) 4 4 := hp.1
        refine wp_yields (v := .pointer (some ⟨bw, 0, none⟩)) ?_ ⟨_, rfl, rfl, Below.refl _ _, hG⟩
        simp [slotOf] at h141
        simp [execOp, go_sem, h141]
      · intro a W hG hR hO hp
        have h142 : slotOf a 142 = .pointer (some ⟨bw, 0, none⟩) := hp.1
        refine wp_yields (v := .pointer (some ⟨bw, 5, none⟩)) ?_ ⟨_, rfl, rfl, Below.refl _ _, hG⟩
        simp [slotOf] at h142
        simp [execOp, go_sem, h142]
      · intro a W hG hR hO hp
        have h143 : slotOf a 143 = .pointer (some ⟨bw, 5, none⟩) := hp.1
        have c0 := keep_cell c5_ hG
        refine wp_yields (v := .slice (some ⟨b0, 0, none⟩) 2 2) ?_ ⟨_, rfl, rfl, Below.refl _ _, hG⟩
        simp [slotOf] at h143
        simp [execOp, go_sem, h143, c0]
      · intro a W hG hR hO hp
        refine wp_enters (f := 46) (args := #[.int .i64 10001, .int .i64 10001]) ?_ ((span_any 10001 10001 W).mono ?_)
        · skip
          simp [go_sem]
        · rintro e w' ⟨rfl, hb⟩
          exact ⟨_, rfl, _, rfl, rfl, hb, below_next hG hb⟩
    · intro wy hG hR
      rintro _ rfl _ rfl _ rfl _ rfl _ rfl _ rfl
      change wpList _ _ _ _ _ _
      simp only [Act.put, List.setIfInBounds_toArray, List.set_cons_zero, List.set_cons_succ, List.drop_succ_cons, List.drop_zero]
      clear hR c5_
      have H55 := Lib.hid (And.intro ((newer_trans H54.out.1 hG)) (And.intro ((H54.out.2.1.next hG)) ((H54.out.2.2.below hG H54.out.2.2.lt))))
      clear hG H54 r2
      have g0 := H55.out.2.1.a0.at 0 (v := vi 50) rfl
      have g1 := H55.out.2.1.a0.at 1 (v := vi 60) rfl
      have f0 := H55.out.2.1.a0.free 0
      have f1 := H55.out.2.1.a0.free 1
      go_upto_region 15 with fail
      refine genQ (fun X => newer w X ∧ Whole X pb 35 #[vi 3, vi 2, .slice (some ⟨bw, 0, none⟩) 4 4, .slice (some ⟨n0, 0, none⟩) 2 2, .slice (some ⟨v0, 0, none⟩) 2 2, .slice (some ⟨p0, 0, none⟩) 3 3] ∧ RM 1 40 10001 10001 w.heap.size bw n0 v0 p0 b0 b1 b2 b3 X) ⟨(H55.out.1.setCell (p := ⟨b0, 0, none⟩) H55.out.2.1.lo.2.2 (vi 10001)).setCell (p := ⟨b0, 1, none⟩) H55.out.2.1.lo.2.2 (vi 10001), (H55.out.2.2.far (p := ⟨b0, 0, none⟩) (whole_ne H55.out.2.2 H55.out.2.1.a0 (by decide)) (vi 10001)).far (p := ⟨b0, 1, none⟩) (whole_ne H55.out.2.2 H55.out.2.1.a0 (by decide)) (vi 10001), H55.out.2.1.setA 10001 10001⟩ ?_
      rintro w56 ⟨g0_, g1_, g2_⟩
      have H57 := Lib.hid (And.intro (g0_) (And.intro (g1_) (g2_)))
      clear g0_ g1_ g2_ H55 g0 g1 f0 f1
      have r0 := H57.out.2.1.at 0 (v := vi 3) rfl
      have r1 := H57.out.2.1.at 1 (v := vi 2) rfl
      have r2 := H57.out.2.1.at 2 (v := .slice (some ⟨bw, 0, none⟩) 4 4) rfl
      have r3 := H57.out.2.1.at 3 (v := .slice (some ⟨n0, 0, none⟩) 2 2) rfl
      have r4 := H57.out.2.1.at 4 (v := .slice (some ⟨v0, 0, none⟩) 2 2) rfl
      have r5 := H57.out.2.1.at 5 (v := .slice (some ⟨p0, 0, none⟩) 3 3) rfl
      have HA := Lib.hid (bestE_own (p := (rPm 1 40 10001 10001 bw n0 v0 p0 b0 b1 b2 b3)) rfl H57.out.2.2.ok RM.few (by simp [rPm]) names_best2)
      go_wp2_with fail
      refine (HA.out).mono ?_
      rintro e w58 ⟨⟨A6, n6, c6, cn6, rfl⟩, hb⟩
      have H59 := Lib.hid (And.intro ((newer_trans H57.out.1 hb)) ((H57.out.2.1.below hb H57.out.2.1.lt)))
      clear hb HA H57 r0 r1 r2 r3 r4 r5
      go_wp2_with fail
      refine (ridge_own _).mono ?_
      rintro e w60 ⟨⟨bx, nx, vx, px, d0, d1, d2, d3, rfl, hrm⟩, hb⟩
      have H61 := Lib.hid (And.intro ((newer_trans H59.out.1 hb)) (And.intro ((H59.out.2.below hb H59.out.2.lt)) ((hrm.more H59.out.1.size))))
      clear hb hrm H59
      have r0 := H61.out.2.1.at 0 (v := vi 3) rfl
      have r1 := H61.out.2.1.at 1 (v := vi 2) rfl
      have r2 := H61.out.2.1.at 2 (v := .slice (some ⟨bw, 0, none⟩) 4 4) rfl
      have r3 := H61.out.2.1.at 3 (v := .slice (some ⟨n0, 0, none⟩) 2 2) rfl
      have r4 := H61.out.2.1.at 4 (v := .slice (some ⟨v0, 0, none⟩) 2 2) rfl
      have r5 := H61.out.2.1.at 5 (v := .slice (some ⟨p0, 0, none⟩) 3 3) rfl
      have k0 := H61.out.2.1.free 0
      have k1 := H61.out.2.1.free 1
      have k2 := H61.out.2.1.free 2
      have k3 := H61.out.2.1.free 3
      have k4 := H61.out.2.1.free 4
      have k5 := H61.out.2.1.free 5
      go_upto_region 17 with fail
      refine genQ (fun X => newer w X ∧ Whole X pb 35 #[vi 3, vi 2, .slice (some ⟨bx, 0, none⟩) 4 4, .slice (some ⟨nx, 0, none⟩) 2 2, .slice (some ⟨vx, 0, none⟩) 2 2, .slice (some ⟨px, 0, none⟩) 3 3] ∧ RM 0 40 50 60 w.heap.size bx nx vx px d0 d1 d2 d3 X) ⟨((((((H61.out.1.setCell (p := ⟨pb, 0, none⟩) Lpb.out.1 (vi 3)).setCell (p := ⟨pb, 1, none⟩) Lpb.out.1 (vi 2)).setCell (p := ⟨pb, 2, none⟩) Lpb.out.1 (.slice (some ⟨bx, 0, none⟩) 4 4)).setCell (p := ⟨pb, 3, none⟩) Lpb.out.1 (.slice (some ⟨nx, 0, none⟩) 2 2)).setCell (p := ⟨pb, 4, none⟩) Lpb.out.1 (.slice (some ⟨vx, 0, none⟩) 2 2)).setCell (p := ⟨pb, 5, none⟩) Lpb.out.1 (.slice (some ⟨px, 0, none⟩) 3 3)), ((((((H61.out.2.1.set 0 (vi 3)).set 1 (vi 2)).set 2 (.slice (some ⟨bx, 0, none⟩) 4 4)).set 3 (.slice (some ⟨nx, 0, none⟩) 2 2)).set 4 (.slice (some ⟨vx, 0, none⟩) 2 2)).set 5 (.slice (some ⟨px, 0, none⟩) 3 3)), ((((((((((((H61.out.2.2).far (i := 0) H61.out.2.1 (by decide) (by decide) (by decide) (by decide) (by decide) (vi 3))).far (i := 1) (H61.out.2.1.set 0 (vi 3)) (by decide) (by decide) (by decide) (by decide) (by decide) (vi 2))).far (i := 2) ((H61.out.2.1.set 0 (vi 3)).set 1 (vi 2)) (by decide) (by decide) (by decide) (by decide) (by decide) (.slice (some ⟨bx, 0, none⟩) 4 4))).far (i := 3) (((H61.out.2.1.set 0 (vi 3)).set 1 (vi 2)).set 2 (.slice (some ⟨bx, 0, none⟩) 4 4)) (by decide) (by decide) (by decide) (by decide) (by decide) (.slice (some ⟨nx, 0, none⟩) 2 2))).far (i := 4) ((((H61.out.2.1.set 0 (vi 3)).set 1 (vi 2)).set 2 (.slice (some ⟨bx, 0, none⟩) 4 4)).set 3 (.slice (some ⟨nx, 0, none⟩) 2 2)) (by decide) (by decide) (by decide) (by decide) (by decide) (.slice (some ⟨vx, 0, none⟩) 2 2))).far (i := 5) (((((H61.out.2.1.set 0 (vi 3)).set 1 (vi 2)).set 2 (.slice (some ⟨bx, 0, none⟩) 4 4)).set 3 (.slice (some ⟨nx, 0, none⟩) 2 2)).set 4 (.slice (some ⟨vx, 0, none⟩) 2 2)) (by decide) (by decide) (by decide) (by decide) (by decide) (.slice (some ⟨px, 0, none⟩) 3 3))⟩ ?_
      rintro w62 ⟨g0_, g1_, g2_⟩
      have H63 := Lib.hid (And.intro (g0_) (And.intro (g1_) (g2_)))
      clear g0_ g1_ g2_ H61 r0 r1 r2 r3 r4 r5 k0 k1 k2 k3 k4 k5
      have r3 := H63.out.2.1.at 3 (v := .slice (some ⟨nx, 0, none⟩) 2 2) rfl
      have c10 := H63.out.2.2.ns.at 5 (v := vi 40) rfl
      have f10 := H63.out.2.2.ns.free 5
      go_upto_region 18 with fail
      refine genQ (fun X => newer w X ∧ Whole X pb 35 #[vi 3, vi 2, .slice (some ⟨bx, 0, none⟩) 4 4, .slice (some ⟨nx, 0, none⟩) 2 2, .slice (some ⟨vx, 0, none⟩) 2 2, .slice (some ⟨px, 0, none⟩) 3 3] ∧ RM 0 200 50 60 w.heap.size bx nx vx px d0 d1 d2 d3 X) ⟨H63.out.1.setCell (p := ⟨nx, 5, none⟩) H63.out.2.2.lo.2.1 (vi 200), H63.out.2.1.far (p := ⟨nx, 5, none⟩) (whole_ne H63.out.2.1 H63.out.2.2.ns (by decide)) (vi 200), H63.out.2.2.setN 200⟩ ?_
      rintro w64 ⟨g0_, g1_, g2_⟩
      have H65 := Lib.hid (And.intro (g0_) (And.intro (g1_) (g2_)))
      clear g0_ g1_ g2_ H63 r3 c10 f10
      have r0 := H65.out.2.1.at 0 (v := vi 3) rfl
      have r1 := H65.out.2.1.at 1 (v := vi 2) rfl
      have r2 := H65.out.2.1.at 2 (v := .slice (some ⟨bx, 0, none⟩) 4 4) rfl
      have r3 := H65.out.2.1.at 3 (v := .slice (some ⟨nx, 0, none⟩) 2 2) rfl
      have r4 := H65.out.2.1.at 4 (v := .slice (some ⟨vx, 0, none⟩) 2 2) rfl
      have r5 := H65.out.2.1.at 5 (v := .slice (some ⟨px, 0, none⟩) 3 3) rfl
      have HA := Lib.hid (court_own (p := (rPm 0 200 50 60 bx nx vx px d0 d1 d2 d3)) rfl H65.out.2.2.ok RM.few (by simp [rPm]) names_due.1 rfl)
      go_wp2_with fail
      refine (HA.out).mono ?_
      rintro e w66 ⟨⟨A8, c8, rfl, -⟩, hb⟩
      have H67 := Lib.hid (And.intro ((newer_trans H65.out.1 hb)) (And.intro ((H65.out.2.1.below hb H65.out.2.1.lt)) ((H65.out.2.2.next hb))))
      clear hb HA H65 r0 r1 r2 r3 r4 r5
      have r0 := H67.out.2.1.at 0 (v := vi 3) rfl
      have r1 := H67.out.2.1.at 1 (v := vi 2) rfl
      have r2 := H67.out.2.1.at 2 (v := .slice (some ⟨bx, 0, none⟩) 4 4) rfl
      have r3 := H67.out.2.1.at 3 (v := .slice (some ⟨nx, 0, none⟩) 2 2) rfl
      have r4 := H67.out.2.1.at 4 (v := .slice (some ⟨vx, 0, none⟩) 2 2) rfl
      have r5 := H67.out.2.1.at 5 (v := .slice (some ⟨px, 0, none⟩) 3 3) rfl
      have HA := Lib.hid (need_own (p := (rPm 0 200 50 60 bx nx vx px d0 d1 d2 d3)) rfl H67.out.2.2.ok RM.few (by simp [rPm]) names_due.2)
      go_wp2_with fail
      refine (HA.out).mono ?_
      rintro e w68 ⟨⟨A9, n9, c9, rfl⟩, hb⟩
      have H69 := Lib.hid ((newer_trans H67.out.1 hb))
      clear hb HA H67 r0 r1 r2 r3 r4 r5
      have hmk := make_many w68
      obtain ⟨mb, hmb⟩ : ∃ mb, mb = w68.heap.size := ⟨_, rfl⟩
      rw [← hmb] at hmk
      go_upto_region 21 with fail
      rw [← hmb]
      have hsz : (w68.alloc (.cells manyCs 87)).heap.size = mb + 1 := by rw [World.size_alloc, ← hmb]
      refine genQ (fun X => newer w X ∧ Whole X mb 87 manyCs ∧ Whole X (mb + 1) 35 #[vi 0, vi 0, .slice (some ⟨mb, 0, none⟩) 9 9, .slice none 0 0, .slice none 0 0, .slice none 0 0]) ⟨(newer_trans H69.out (newer_trans (newer_allocH w68 (.cells manyCs 87)) (newer_allocH (w68.alloc (.cells manyCs 87)) (.cells #[vi 0, vi 0, .slice (some ⟨mb, 0, none⟩) 9 9, .slice none 0 0, .slice none 0 0, .slice none 0 0] 35)))), (by rw [hmb]; exact (Whole.made _ _ _).alloc _), (by have h := Whole.made (w68.alloc (.cells manyCs 87)) 35 #[vi 0, vi 0, .slice (some ⟨mb, 0, none⟩) 9 9, .slice none 0 0, .slice none 0 0, .slice none 0 0]; rw [World.size_alloc, ← hmb] at h; exact h)⟩ ?_
      try rw [hsz]
      clear hsz hmb
      rintro w70 ⟨g0_, g1_, g2_⟩
      have H71 := Lib.hid (And.intro (g0_) (And.intro (g1_) (g2_)))
      clear g0_ g1_ g2_ H69 hmk
      have m0 := H71.out.2.2.at 0 (v := vi 0) rfl
      have m1 := H71.out.2.2.at 1 (v := vi 0) rfl
      have m2 := H71.out.2.2.at 2 (v := .slice (some ⟨mb, 0, none⟩) 9 9) rfl
      have m3 := H71.out.2.2.at 3 (v := .slice none 0 0) rfl
      have m4 := H71.out.2.2.at 4 (v := .slice none 0 0) rfl
      have m5 := H71.out.2.2.at 5 (v := .slice none 0 0) rfl
      go_wp2_with fail
      refine (check_own (p := manyPm mb) rfl (many_ok H71.out.2.1 (by kernel_rfl)) (many_few mb) (many_fault mb)).mono ?_
      rintro e w72 ⟨rfl, hb⟩
      have H73 := Lib.hid (And.intro ((newer_trans H71.out.1 hb)) (And.intro ((H71.out.2.1.below hb H71.out.2.1.lt)) ((H71.out.2.2.below hb H71.out.2.2.lt))))
      clear hb H71 m0 m1 m2 m3 m4 m5
      go_wp2_with fail
      refine (check_own (p := noPm) rfl (no_ok _) no_few no_fault).mono ?_
      rintro e w74 ⟨rfl, hb⟩
      have H75 := Lib.hid (And.intro ((newer_trans H73.out.1 hb)) (And.intro ((H73.out.2.1.below hb H73.out.2.1.lt)) ((H73.out.2.2.below hb H73.out.2.2.lt))))
      clear hb H73
      go_wp2_with (go_at_call 17; refine (wakes_any _).mono ?_; rintro e w' ⟨rfl, hwk⟩; have HWK := Lib.hid (newer_trans H75.out.1 hwk); clear hwk)
      go_ret
      exact ⟨rfl, HWK.out⟩
set_option maxRecDepth 100000 in
set_option maxHeartbeats 1000000 in
theorem worksNames_lifted (os : Os) (started : os.Started) (H : Type) (enc : TypeId × Value → H) :
    ReturnsInHanded {} Try.checked os 15 .any (Rows.worksNamesSpec.pre6 enc Try.prog Try.f15 Rows.worksNamesRow.domain false) (Rows.worksNamesSpec.post enc Try.prog Try.f15 false true false false) := by
  refine returnsInHanded_of_change (C := Try.checked) Try.own started (by kernel_rfl) Try.func15
    (ChangeSpec.witness6 (enc := enc) (C := Try.checked) false ⟨#[], #[], []⟩ 8 (by kernel_rfl) (by kernel_rfl) (by kernel_rfl) (by kernel_rfl)) ?_
  intro W base args ds gs before hval0 hW hcnd _
  have hval : ∀ (j : Nat) t v, Try.f15.params[j]? = some t → args[j]? = some v → Value.okWide Try.prog W .any base t v := hval0
  have hW' := hW
  obtain ⟨p, q, hA0, hV, rfl, hfz, hnd⟩ := hW
  have hA : DataW.TrodAll enc Try.prog W 0 (fun _ => true) true Try.f15.params.toList args.toList ds p := hA0
  rw [Try.params15] at hA hval
  obtain ⟨hargs, rfl, rfl⟩ := trodAll_nil hA
  obtain rfl : args = #[] := by
    clear hval hW' hA hval0 hA0 hcnd
    cases args
    simp_all
  obtain ⟨rfl, rfl⟩ := trodVars_none hV
  clear hA0 hval0
  refine (worksNames_walk W).mono fun e W' ⟨he, bel⟩ => ?_
  subst he
  exact ⟨_, rfl, _, _, _, [], _, [], hW', trodAll_mk1 (shut_bool Try.underlying4 _), trodAll_mk0, rfl, bel.frame _, fun h => by cases h⟩

theorem worksNames_holds : Rows.WorksNamesSaid :=
  OpenClaim.holds_of_wide 15 Try.f15 rfl rfl rfl rfl rfl rfl rfl ⟨rfl, rfl, rfl, rfl, rfl⟩ rfl rfl rfl rfl rfl (by kernel_rfl) Try.func15 (by kernel_rfl)
    (of_decide_eq_true (by kernel_rfl)) (by unfold Func.isWrapper; first | (rw [if_pos (by decide +kernel)]; kernel_rfl) | (rw [if_neg (by decide +kernel)]; exact ⟨rfl, rfl⟩))
    (fun os started H enc _ => worksNames_lifted os started H enc)
#print axioms worksNames_holds

end Go.Proofs.Ytpnpnfjhjjdmgaa
