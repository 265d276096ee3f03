/- Valid spots, tools, by the reference. -/
import Derived.Test.YtpmafnifgegfbaaF
namespace Go.Proofs.Ytpmafnifgegfbaa
open Go.RowKit Go.Deep

set_option maxHeartbeats 1000000 in
theorem span_any (r : Rg) (w : World) : Calls Try.prog 58 #[rgV r] w fun e w' => e = .returned (.bool (rgB r)) ∧ newer w w' := by
  have hnw := newer_allocH w (.cells #[vi r.lo, vi r.hi] 71)
  have hbx := Whole.made w 71 #[vi r.lo, vi r.hi]
  have x0 := hbx.at 0 (v := vi r.lo) rfl
  have x1 := hbx.at 1 (v := vi r.hi) rfl
  have HN := Lib.hid hnw
  obtain ⟨R, hR⟩ : ∃ R, R = rgB r := ⟨_, rfl⟩
  have HR := Lib.hid hR
  rw [← hR]
  have em : ∀ x : Int, x ≤ mnI 30 (r.lo + 12) ↔ x ≤ 30 ∧ x ≤ r.lo + 12 := fun x => by unfold mnI; split <;> omega
  have C1 := Lib.hid (fun W => in_any r.lo (-30) 30 W)
  have C2 := Lib.hid (fun W => in_any r.hi r.lo 30 W)
  have HE : Hid (R = (inB r.lo (-30) 30 && inB r.hi r.lo 30 && decide (r.hi - r.lo ≤ 12))) := Lib.hid (by
    rw [HR.out, Bool.eq_iff_iff]
    simp only [rgB, inB, Bool.and_eq_true, decide_eq_true_eq, em]
    omega)
  obtain ⟨q1, h1⟩ : ∃ q, q = inB r.lo (-30) 30 := ⟨_, rfl⟩
  obtain ⟨q2, h2⟩ : ∃ q, q = inB r.hi r.lo 30 := ⟨_, rfl⟩
  have H1 := Lib.hid h1
  have H2 := Lib.hid h2
  rw [← h1] at C1 HE
  rw [← h2] at C2 HE
  clear h1 h2 hR hbx hnw em
  go_enter Try.func58, Try.ntmps58
  go_wp2_with fail
  refine (C1.out _).mono ?_
  rintro e w' ⟨rfl, rfl⟩
  cases q1 with
  | false =>
    go_wp2_with fail
    go_ret
    exact ⟨ret_bool (by rw [HE.out]; rfl), HN.out⟩
  | true =>
    go_wp2_with fail
    refine (C2.out _).mono ?_
    rintro e w' ⟨rfl, rfl⟩
    cases q2 with
    | false =>
      go_wp2_with fail
      go_ret
      exact ⟨ret_bool (by rw [HE.out]; rfl), HN.out⟩
    | true =>
      have hb : (-30 ≤ r.lo ∧ r.lo ≤ 30) ∧ r.lo ≤ r.hi ∧ r.hi ≤ 30 := by
        have a1 := H1.out
        have a2 := H2.out
        have a3 : inB r.lo (-30) 30 = true := a1.symm
        have a4 : inB r.hi r.lo 30 = true := a2.symm
        simp only [inB, Bool.and_eq_true, decide_eq_true_eq] at a3 a4
        omega
      go_wp2_with fail
      go_ret
      exact ⟨ret_bool (by rw [HE.out]; simp), HN.out⟩
set_option maxRecDepth 100000 in
set_option maxHeartbeats 2000000 in
theorem refTool_any (y : Sm) (t : Tl) (w : World) (hn : y.s.spots.length ≤ 1000000) : Calls Try.prog 59 #[smV y, tlV t] w fun e w' => e = .returned (.bool (tlB y.s.spots.length y.s.day t)) ∧ newer w w' := by
  have hnw := newer_trans (newer_allocH w (.cells (smC y) 26)) (newer_allocH (w.alloc (.cells (smC y) 26)) (.cells (tlC t) 43))
  have hbx := (Whole.made w 26 (smC y)).alloc (.cells (tlC t) 43)
  have htb := Whole.made (w.alloc (.cells (smC y) 26)) 43 (tlC t)
  simp only [World.size_alloc] at htb
  obtain ⟨q, hq⟩ : ∃ q, q = tlB y.s.spots.length y.s.day t := ⟨_, rfl⟩
  unfold tlB at hq
  rw [show tlB y.s.spots.length y.s.day t = q by rw [hq]; rfl]
  obtain ⟨q0, h0⟩ : ∃ q, q = inB t.spot 0 (y.s.spots.length - 1) := ⟨_, rfl⟩
  have C0 := Lib.hid (fun W => in_any t.spot 0 (y.s.spots.length - 1) W)
  rw [← h0] at C0 hq
  clear h0
  obtain ⟨q1, h1⟩ : ∃ q, q = inB t.a (-3) 3 := ⟨_, rfl⟩
  have C1 := Lib.hid (fun W => in_any t.a (-3) 3 W)
  rw [← h1] at C1 hq
  clear h1
  obtain ⟨q2, h2⟩ : ∃ q, q = inB t.b (-3) 3 := ⟨_, rfl⟩
  have C2 := Lib.hid (fun W => in_any t.b (-3) 3 W)
  rw [← h2] at C2 hq
  clear h2
  obtain ⟨q4, h4⟩ : ∃ q, q = inB t.turn 2 200 := ⟨_, rfl⟩
  have C4 := Lib.hid (fun W => in_any t.turn 2 200 W)
  rw [← h4] at C4 hq
  clear h4
  obtain ⟨q5, h5⟩ : ∃ q, q = inB t.err 0 50 := ⟨_, rfl⟩
  have C5 := Lib.hid (fun W => in_any t.err 0 50 W)
  rw [← h5] at C5 hq
  clear h5
  obtain ⟨q6, h6⟩ : ∃ q, q = inB t.drift 0 3 := ⟨_, rfl⟩
  have C6 := Lib.hid (fun W => in_any t.drift 0 3 W)
  rw [← h6] at C6 hq
  clear h6
  obtain ⟨q7, h7⟩ : ∃ q, q = inB t.since 0 y.s.day := ⟨_, rfl⟩
  have C7 := Lib.hid (fun W => in_any t.since 0 y.s.day W)
  rw [← h7] at C7 hq
  clear h7
  have HQ := Lib.hid hq
  clear hq
  have H1 := Lib.hid (And.intro (hnw) (And.intro (hbx) (htb)))
  clear hnw hbx htb
  have x0 := H1.out.2.1.at 0 (v := .slice y.sa y.s.spots.length y.sc) rfl
  have x1 := H1.out.2.1.at 1 (v := vi y.s.strain) rfl
  have x2 := H1.out.2.1.at 2 (v := .slice y.ta y.s.tools.length y.tc) rfl
  have x3 := H1.out.2.1.at 3 (v := vi y.s.day) rfl
  have x4 := H1.out.2.1.at 4 (v := .slice y.ra y.s.reads.length y.rc) rfl
  have z0 := H1.out.2.2.at 0 (v := vi t.spot) rfl
  have z1 := H1.out.2.2.at 1 (v := vi t.a) rfl
  have z2 := H1.out.2.2.at 2 (v := vi t.b) rfl
  have z3 := H1.out.2.2.at 3 (v := vi t.turn) rfl
  have z4 := H1.out.2.2.at 4 (v := vi t.err) rfl
  have z5 := H1.out.2.2.at 5 (v := vi t.drift) rfl
  have z6 := H1.out.2.2.at 6 (v := vi t.since) rfl
  go_enter Try.func59, Try.ntmps59
  go_wp2_with fail
  refine (C0.out _).mono ?_
  rintro e w' ⟨rfl, rfl⟩
  cases q0 with
  | false =>
    go_wp2_with fail
    go_ret
    exact ⟨ret_bool (by rw [HQ.out]; simp), H1.out.1⟩
  | true =>
    go_wp2_with fail
    refine (C1.out _).mono ?_
    rintro e w' ⟨rfl, rfl⟩
    cases q1 with
    | false =>
      go_wp2_with fail
      go_ret
      exact ⟨ret_bool (by rw [HQ.out]; simp), H1.out.1⟩
    | true =>
      go_wp2_with fail
      refine (C2.out _).mono ?_
      rintro e w' ⟨rfl, rfl⟩
      cases q2 with
      | false =>
        go_wp2_with fail
        go_ret
        exact ⟨ret_bool (by rw [HQ.out]; simp), H1.out.1⟩
      | true =>
        by_cases ha : t.a = 0
        · by_cases hb0 : t.b = 0
          · go_wp2_with fail
            go_ret
            exact ⟨ret_bool (by rw [HQ.out]; simp [ha, hb0]), H1.out.1⟩
          · by_cases ht : t.turn = 0
            · go_wp2_with fail
              refine (C5.out _).mono ?_
              rintro e w' ⟨rfl, rfl⟩
              cases q5 with
              | false =>
                go_wp2_with fail
                go_ret
                exact ⟨ret_bool (by rw [HQ.out]; simp [ha, hb0, ht]), H1.out.1⟩
              | true =>
                go_wp2_with fail
                refine (C6.out _).mono ?_
                rintro e w' ⟨rfl, rfl⟩
                cases q6 with
                | false =>
                  go_wp2_with fail
                  go_ret
                  exact ⟨ret_bool (by rw [HQ.out]; simp [ha, hb0, ht]), H1.out.1⟩
                | true =>
                  go_wp2_with fail
                  refine (C7.out _).mono ?_
                  rintro e w' ⟨rfl, rfl⟩
                  cases q7 with
                  | false =>
                    go_wp2_with fail
                    go_ret
                    exact ⟨ret_bool (by rw [HQ.out]; simp [ha, hb0, ht]), H1.out.1⟩
                  | true =>
                    go_wp2_with fail
                    go_ret
                    exact ⟨ret_bool (by rw [HQ.out]; simp [ha, hb0, ht]), H1.out.1⟩
            · go_wp2_with fail
              refine (C4.out _).mono ?_
              rintro e w' ⟨rfl, rfl⟩
              cases q4 with
              | false =>
                go_wp2_with fail
                go_ret
                exact ⟨ret_bool (by rw [HQ.out]; simp [ha, hb0, ht]), H1.out.1⟩
              | true =>
                go_wp2_with fail
                refine (C5.out _).mono ?_
                rintro e w' ⟨rfl, rfl⟩
                cases q5 with
                | false =>
                  go_wp2_with fail
                  go_ret
                  exact ⟨ret_bool (by rw [HQ.out]; simp [ha, hb0, ht]), H1.out.1⟩
                | true =>
                  go_wp2_with fail
                  refine (C6.out _).mono ?_
                  rintro e w' ⟨rfl, rfl⟩
                  cases q6 with
                  | false =>
                    go_wp2_with fail
                    go_ret
                    exact ⟨ret_bool (by rw [HQ.out]; simp [ha, hb0, ht]), H1.out.1⟩
                  | true =>
                    go_wp2_with fail
                    refine (C7.out _).mono ?_
                    rintro e w' ⟨rfl, rfl⟩
                    cases q7 with
                    | false =>
                      go_wp2_with fail
                      go_ret
                      exact ⟨ret_bool (by rw [HQ.out]; simp [ha, hb0, ht]), H1.out.1⟩
                    | true =>
                      go_wp2_with fail
                      go_ret
                      exact ⟨ret_bool (by rw [HQ.out]; simp [ha, hb0, ht]), H1.out.1⟩
        · by_cases ht : t.turn = 0
          · go_wp2_with fail
            refine (C5.out _).mono ?_
            rintro e w' ⟨rfl, rfl⟩
            cases q5 with
            | false =>
              go_wp2_with fail
              go_ret
              exact ⟨ret_bool (by rw [HQ.out]; simp [ha, ht]), H1.out.1⟩
            | true =>
              go_wp2_with fail
              refine (C6.out _).mono ?_
              rintro e w' ⟨rfl, rfl⟩
              cases q6 with
              | false =>
                go_wp2_with fail
                go_ret
                exact ⟨ret_bool (by rw [HQ.out]; simp [ha, ht]), H1.out.1⟩
              | true =>
                go_wp2_with fail
                refine (C7.out _).mono ?_
                rintro e w' ⟨rfl, rfl⟩
                cases q7 with
                | false =>
                  go_wp2_with fail
                  go_ret
                  exact ⟨ret_bool (by rw [HQ.out]; simp [ha, ht]), H1.out.1⟩
                | true =>
                  go_wp2_with fail
                  go_ret
                  exact ⟨ret_bool (by rw [HQ.out]; simp [ha, ht]), H1.out.1⟩
          · go_wp2_with fail
            refine (C4.out _).mono ?_
            rintro e w' ⟨rfl, rfl⟩
            cases q4 with
            | false =>
              go_wp2_with fail
              go_ret
              exact ⟨ret_bool (by rw [HQ.out]; simp [ha, ht]), H1.out.1⟩
            | true =>
              go_wp2_with fail
              refine (C5.out _).mono ?_
              rintro e w' ⟨rfl, rfl⟩
              cases q5 with
              | false =>
                go_wp2_with fail
                go_ret
                exact ⟨ret_bool (by rw [HQ.out]; simp [ha, ht]), H1.out.1⟩
              | true =>
                go_wp2_with fail
                refine (C6.out _).mono ?_
                rintro e w' ⟨rfl, rfl⟩
                cases q6 with
                | false =>
                  go_wp2_with fail
                  go_ret
                  exact ⟨ret_bool (by rw [HQ.out]; simp [ha, ht]), H1.out.1⟩
                | true =>
                  go_wp2_with fail
                  refine (C7.out _).mono ?_
                  rintro e w' ⟨rfl, rfl⟩
                  cases q7 with
                  | false =>
                    go_wp2_with fail
                    go_ret
                    exact ⟨ret_bool (by rw [HQ.out]; simp [ha, ht]), H1.out.1⟩
                  | true =>
                    go_wp2_with fail
                    go_ret
                    exact ⟨ret_bool (by rw [HQ.out]; simp [ha, ht]), H1.out.1⟩

end Go.Proofs.Ytpmafnifgegfbaa
