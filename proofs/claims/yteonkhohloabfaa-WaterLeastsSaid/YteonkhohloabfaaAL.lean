/- The law WaterLeasts returns true for every ground, all days, every cell and every level, and leaves what it was given as it was. -/
import Derived.Test.YteonkhohloabfaaAK
namespace Go.Proofs.Yteonkhohloabfaa
open Go.ChangeShapes Go.WideShapes Go.ChangeAt Go.RowKit Go.Deep

/-- Least, where it refuses. -/
theorem least_no (g : Gnd) (A : Option Addr) (ap : Nat) (days : List Day) (D : Option Addr) (dp : Nat) (cell level : Int) (w : World) (hn : g.cells.length ≤ 1000) (hm : days.length ≤ 1000) (hc : Row cellL 7 w w.heap.size A g.cells) (hd : Row dayL 3 w w.heap.size D days) (e : Int) (he : e = askedN g days cell level) (hf : e ≠ 0) :
    Calls Try.prog 24 #[gndV A ap g, .slice D days.length dp, .int .i64 cell, .int .i64 level] w fun r w' => r = .returned (.tuple #[.int .i64 0, .int .i64 e]) ∧ Below w.heap.size w w' := by
  subst he
  exact least_err g A ap days D dp cell level w hn hm hc hd hf

set_option maxRecDepth 100000 in
set_option maxHeartbeats 2000000 in
theorem waterLeasts_walk (g : Gnd) (A : Option Addr) (cp : Nat) (days : List Day) (D : Option Addr) (dp : Nat) (cell level : Int) (w : World) (hc : Row cellL 7 w w.heap.size A g.cells) (hd : Row dayL 3 w w.heap.size D days) :
    Calls Try.prog 4 #[gndV A cp g, .slice D days.length dp, .int .i64 cell, .int .i64 level] w fun e w' => e = .returned (.bool true) ∧ Below w.heap.size w w' := by
  have HC := Lib.hid hc
  have HD := Lib.hid hd
  clear hc hd
  cases ht : thinB g.cells.length days.length
  · have HT := Lib.hid (thin_any g cp A days.length dp D (w.alloc (.cells (gndC A cp g) 26)))
    rw [ht] at HT
    clear ht
    go_enter Try.func4, Try.ntmps4
    go_wp2_with fail
    refine (HT.out).mono ?_
    rintro e w1 ⟨rfl, hb1⟩
    have hB := below_step ((Below.refl w.heap.size w).alloc (Nat.le_refl _) _) hb1 (by simp)
    clear hb1 HT
    go_wp2_with fail
    refine (wakes_any _).mono ?_
    rintro e w2 ⟨rfl, hb2⟩
    have HF := Lib.hid (below_next hB hb2)
    clear hb2 hB
    go_wp2_with fail
    go_ret
    exact ⟨rfl, HF.out⟩
  · have hsz : g.cells.length ≤ 10 ∧ days.length ≤ 35 := by simpa [thinB] using ht
    have HT := Lib.hid (thin_any g cp A days.length dp D (w.alloc (.cells (gndC A cp g) 26)))
    rw [ht] at HT
    clear ht
    obtain ⟨er, her⟩ : ∃ er, er = askedN g days cell level := ⟨_, rfl⟩
    have HER := Lib.hid her
    clear her
    go_enter Try.func4, Try.ntmps4
    go_wp2_with fail
    refine (HT.out).mono ?_
    rintro e w1 ⟨rfl, hb1⟩
    have hB1 := below_step ((Below.refl w.heap.size w).alloc (Nat.le_refl _) (.cells (gndC A cp g) 26)) hb1 (by simp)
    have hg1 := (Whole.made w 26 (gndC A cp g)).below hb1 (by simp)
    clear hb1 HT
    have g0 := hg1.at 0 (v := .slice A g.cells.length cp) rfl
    have g1 := hg1.at 1 (v := vi g.slo) rfl
    have g2 := hg1.at 2 (v := vi g.shi) rfl
    have g3 := hg1.at 3 (v := vi g.klo) rfl
    have g4 := hg1.at 4 (v := vi g.khi) rfl
    have g5 := hg1.at 5 (v := vi g.melt) rfl
    have HG := Lib.hid (lawGround g A cp w1 (by omega) ((HC.out.below hB1).more hB1.size))
    have H1 := Lib.hid (And.intro hB1 hg1)
    clear hB1 hg1
    go_wp2_with fail
    refine (HG.out).mono ?_
    rintro e w2 ⟨A2, cq, rfl, hr2, hb2⟩
    have HDy := Lib.hid (lawDays days D dp w2 (by omega) ((HD.out.below (below_next H1.out.1 hb2)).more (below_next H1.out.1 hb2).size))
    have H2 := Lib.hid (And.intro (below_next H1.out.1 hb2) (And.intro (H1.out.2.below hb2 H1.out.2.lt) hr2))
    clear g0 g1 g2 g3 g4 g5 hr2 hb2 HG H1
    go_wp2_with fail
    refine (HDy.out).mono ?_
    rintro e w3 ⟨A3, cr, rfl, hr3, hb3⟩
    have H3 := Lib.hid (And.intro (below_next H2.out.1 hb3) (And.intro (H2.out.2.1.below hb3 H2.out.2.1.lt) (And.intro ((H2.out.2.2.below hb3).more hb3.size) hr3)))
    clear hr3 hb3 H2 HDy
    have HAS : Hid (∀ W, Below w.heap.size w W → Calls Try.prog 25 #[gndV A cp g, .slice D days.length dp, .int .i64 cell, .int .i64 level] W fun e w' => e = .returned (.int .i64 er) ∧ Below W.heap.size W w') := by
      intro W hW
      rw [HER.out]
      exact lawAsked g A cp days D dp cell level W (by omega) (by omega) ((HC.out.below hW).more hW.size) ((HD.out.below hW).more hW.size)
    by_cases hf : er = 0
    · have hf0 : askedN g days cell level = 0 := by rw [← HER.out]; exact hf
      obtain ⟨hfa, c0, c1, l0, l1⟩ := asked_zero hf0
      obtain ⟨cn, hcn⟩ : ∃ cn : Nat, cell = cn := ⟨cell.toNat, by omega⟩
      subst hcn
      have hcn : cn < g.cells.length := by omega
      have HCN := Lib.hid hcn
      have HK : Hid (∀ pump W, 0 ≤ pump → pump ≤ 100000 → Below w.heap.size w W → Calls Try.prog 26 #[gndV A cp g, .slice D days.length dp, .int .i64 cn, .int .i64 level, .int .i64 pump] W fun e w' => e = .returned (.bool (keepsB g days cn level pump)) ∧ Below W.heap.size W w') := by
        intro pump W p0 p1 hW
        exact refKeeps g A cp days D dp cn level pump W hfa hcn l0 l1 p0 p1 ((HC.out.below hW).more hW.size) ((HD.out.below hW).more hW.size)
      have HL := Lib.hid (least_ok g A2 cq days A3 cr cn level w3 (by omega) (by omega) H3.out.2.2.1 H3.out.2.2.2 hf0)
      have HMO : Hid (∀ a b, 0 ≤ a → a ≤ b → b ≤ 100000 → keepsB g days cn level a = true → keepsB g days cn level b = true) := fun a b h0 h1 h2 h3 => keepsB_mono hfa hcn level h0 h1 h2 h3
      subst hf
      clear hf0 hfa hcn c0 c1
      go_wp2_with fail
      refine (HL.out).mono ?_
      rintro e w4 ⟨n, hh, rfl, hb4⟩
      have hho := halved_ok HMO.out hh
      have HHO := Lib.hid hho
      have hB4 := below_next H3.out.1 hb4
      have hg4 := H3.out.2.1.below hb4 H3.out.2.1.lt
      have g0 := hg4.at 0 (v := .slice A g.cells.length cp) rfl
      have g1 := hg4.at 1 (v := vi g.slo) rfl
      have g2 := hg4.at 2 (v := vi g.shi) rfl
      have g3 := hg4.at 3 (v := vi g.klo) rfl
      have g4 := hg4.at 4 (v := vi g.khi) rfl
      have g5 := hg4.at 5 (v := vi g.melt) rfl
      have H4 := Lib.hid (And.intro hB4 hg4)
      clear hB4 hg4 hb4 HL H3 hh hho
      cases hk1 : keepsB g days cn level 100000
      · have hn : 100000 < n := by
          rcases Int.lt_or_le 100000 n with h | h
          · exact h
          · have := (HHO.out).2.2.1.1 h
            rw [hk1] at this; cases this
        rw [if_pos hn]
        have HK1 := Lib.hid hk1
        clear hn hk1
        go_wp2_with fail
        refine (HAS.out _ H4.out.1).mono ?_
        rintro e w5 ⟨rfl, hb5⟩
        have hB5 := below_next H4.out.1 hb5
        have hg5 := H4.out.2.below hb5 H4.out.2.lt
        clear g0 g1 g2 g3 g4 g5
        have g0 := hg5.at 0 (v := .slice A g.cells.length cp) rfl
        have g1 := hg5.at 1 (v := vi g.slo) rfl
        have g2 := hg5.at 2 (v := vi g.shi) rfl
        have g3 := hg5.at 3 (v := vi g.klo) rfl
        have g4 := hg5.at 4 (v := vi g.khi) rfl
        have g5 := hg5.at 5 (v := vi g.melt) rfl
        have H5 := Lib.hid (And.intro hB5 hg5)
        clear hB5 hg5 hb5 H4
        go_wp2_with fail
        refine (HK.out 100000 _ (by omega) (by omega) H5.out.1).mono ?_
        rintro e w6 ⟨rfl, hb6⟩
        rw [HK1.out]
        have HB6 := Lib.hid (below_next H5.out.1 hb6)
        clear hb6 H5 g0 g1 g2 g3 g4 g5
        go_wp2_with fail
        refine (wakes_any _).mono ?_
        rintro e w7 ⟨rfl, hb7⟩
        have HX := Lib.hid (below_next HB6.out hb7)
        clear hb7
        go_wp2_with fail
        go_ret
        exact ⟨rfl, HX.out⟩
      · have hn : n ≤ 100000 := (HHO.out).2.2.1.2 hk1
        have hn0 := (HHO.out).1
        rw [if_neg (by omega)]
        have HK1 := Lib.hid hk1
        have HKN := Lib.hid ((HHO.out).2.2.2.1 hn)
        clear hk1
        go_wp2_with fail
        refine (HAS.out _ H4.out.1).mono ?_
        rintro e w5 ⟨rfl, hb5⟩
        have hB5 := below_next H4.out.1 hb5
        have hg5 := H4.out.2.below hb5 H4.out.2.lt
        clear g0 g1 g2 g3 g4 g5
        have g0 := hg5.at 0 (v := .slice A g.cells.length cp) rfl
        have g1 := hg5.at 1 (v := vi g.slo) rfl
        have g2 := hg5.at 2 (v := vi g.shi) rfl
        have g3 := hg5.at 3 (v := vi g.klo) rfl
        have g4 := hg5.at 4 (v := vi g.khi) rfl
        have g5 := hg5.at 5 (v := vi g.melt) rfl
        have H5 := Lib.hid (And.intro hB5 hg5)
        clear hB5 hg5 hb5 H4
        go_wp2_with fail
        refine (HK.out 100000 _ (by omega) (by omega) H5.out.1).mono ?_
        rintro e w6 ⟨rfl, hb6⟩
        rw [HK1.out]
        have hg6 := H5.out.2.below hb6 H5.out.2.lt
        clear g0 g1 g2 g3 g4 g5
        have g0 := hg6.at 0 (v := .slice A g.cells.length cp) rfl
        have g1 := hg6.at 1 (v := vi g.slo) rfl
        have g2 := hg6.at 2 (v := vi g.shi) rfl
        have g3 := hg6.at 3 (v := vi g.klo) rfl
        have g4 := hg6.at 4 (v := vi g.khi) rfl
        have g5 := hg6.at 5 (v := vi g.melt) rfl
        have H6 := Lib.hid (And.intro (below_next H5.out.1 hb6) hg6)
        clear hb6 H5 hg6
        go_wp2_with fail
        refine (in_any _ _ _ _).mono ?_
        rintro e w7 ⟨rfl, rfl⟩
        rw [show inB n 0 100000 = true by simp [inB]; omega]
        go_wp2_with fail
        refine (HK.out n _ hn0 hn H6.out.1).mono ?_
        rintro e w7 ⟨rfl, hb7⟩
        rw [HKN.out]
        have hg7 := H6.out.2.below hb7 H6.out.2.lt
        clear g0 g1 g2 g3 g4 g5
        have g0 := hg7.at 0 (v := .slice A g.cells.length cp) rfl
        have g1 := hg7.at 1 (v := vi g.slo) rfl
        have g2 := hg7.at 2 (v := vi g.shi) rfl
        have g3 := hg7.at 3 (v := vi g.klo) rfl
        have g4 := hg7.at 4 (v := vi g.khi) rfl
        have g5 := hg7.at 5 (v := vi g.melt) rfl
        have H7 := Lib.hid (And.intro (below_next H6.out.1 hb7) hg7)
        clear hb7 H6 hg7
        by_cases hz : n = 0
        · subst hz
          go_wp2_with fail
          refine (wakes_any _).mono ?_
          rintro e w8 ⟨rfl, hb8⟩
          have HX := Lib.hid (below_next H7.out.1 hb8)
          clear hb8
          go_wp2_with fail
          go_ret
          exact ⟨rfl, HX.out⟩
        · have hzb : (n == 0) = false := by simpa using hz
          have HKM := Lib.hid (show keepsB g days cn level (n - 1) = false from by
            rcases (HHO.out).2.2.2.2 with h | h
            · exact absurd h hz
            · exact h)
          go_wp2_with fail
          refine (HK.out (n - 1) _ (by omega) (by omega) H7.out.1).mono ?_
          rintro e w8 ⟨rfl, hb8⟩
          rw [HKM.out]
          have HB8 := Lib.hid (below_next H7.out.1 hb8)
          clear hb8 H7 g0 g1 g2 g3 g4 g5
          go_wp2_with fail
          refine (wakes_any _).mono ?_
          rintro e w9 ⟨rfl, hb9⟩
          have HX := Lib.hid (below_next HB8.out hb9)
          clear hb9
          go_wp2_with fail
          go_ret
          exact ⟨rfl, HX.out⟩
    · have HL := Lib.hid (least_no g A2 cq days A3 cr cell level w3 (by omega) (by omega) H3.out.2.2.1 H3.out.2.2.2 er HER.out hf)
      have hfb : (er == 0) = false := by simpa using hf
      have hfn : (er != 0) = true := by simpa using hf
      clear hf
      go_wp2_with fail
      refine (HL.out).mono ?_
      rintro e w4 ⟨rfl, hb4⟩
      have hB4 := below_next H3.out.1 hb4
      have hg4 := H3.out.2.1.below hb4 H3.out.2.1.lt
      have g0 := hg4.at 0 (v := .slice A g.cells.length cp) rfl
      have g1 := hg4.at 1 (v := vi g.slo) rfl
      have g2 := hg4.at 2 (v := vi g.shi) rfl
      have g3 := hg4.at 3 (v := vi g.klo) rfl
      have g4 := hg4.at 4 (v := vi g.khi) rfl
      have g5 := hg4.at 5 (v := vi g.melt) rfl
      have HB4 := Lib.hid hB4
      clear hB4 hb4 hg4 HL H3
      go_wp2_with fail
      refine (HAS.out _ HB4.out).mono ?_
      rintro e w5 ⟨rfl, hb5⟩
      have HB5 := Lib.hid (below_next HB4.out hb5)
      clear hb5 HB4 g0 g1 g2 g3 g4 g5
      go_wp2_with fail
      refine (wakes_any _).mono ?_
      rintro e w6 ⟨rfl, hb6⟩
      have HX := Lib.hid (below_next HB5.out hb6)
      clear hb6
      go_wp2_with fail
      go_ret
      exact ⟨rfl, HX.out⟩

set_option maxRecDepth 100000 in
theorem waterLeasts_lifted (os : Os) (started : os.Started) (H : Type) (enc : TypeId × Value → H) :
    ReturnsInHanded {} Try.checked os 4 .any (Rows.waterLeastsSpec.pre6 enc Try.prog Try.f4 Rows.waterLeastsRow.domain false) (Rows.waterLeastsSpec.post enc Try.prog Try.f4 false true false false) := by
  refine returnsInHanded_of_change (C := Try.checked) Try.own started (by kernel_rfl) Try.func4
    (ChangeSpec.witness6 (enc := enc) (C := Try.checked) false ⟨#[], #[.agg #[.slice none 0 0, .int .i64 0, .int .i64 0, .int .i64 0, .int .i64 0, .int .i64 0], .slice none 0 0, .int .i64 0, .int .i64 0], []⟩ 8 (by kernel_rfl) (by kernel_rfl) (by kernel_rfl) (by kernel_rfl)) ?_
  intro W base args ds gs before hval0 hW hcnd _
  have hval : ∀ (j : Nat) t v, Try.f4.params[j]? = some t → args[j]? = some v → Value.okWide Try.prog W .any base t v := hval0
  have hW' := hW
  obtain ⟨p, q, hA0, hV, rfl, hfz, hnd⟩ := hW
  have hA : DataW.TrodAll enc Try.prog W 0 (fun _ => true) true Try.f4.params.toList args.toList ds p := hA0
  rw [Try.params4] at hA hval
  obtain ⟨v0, vs0, d0, ds0, p0, q0, hargs, rfl, rfl, h0, r0⟩ := trodAll_cons hA
  obtain ⟨v1, vs1, d1, ds1, p1, q1, rfl, rfl, rfl, h1, r1⟩ := trodAll_cons r0
  obtain ⟨v2, vs2, d2, ds2, p2, q2, rfl, rfl, rfl, h2, r2⟩ := trodAll_cons r1
  obtain ⟨v3, vs3, d3, ds3, p3, q3, rfl, rfl, rfl, h3, r3⟩ := trodAll_cons r2
  obtain ⟨rfl, rfl, rfl⟩ := trodAll_nil r3
  obtain rfl : args = #[v0, v1, v2, v3] := by cases args; simp_all
  obtain ⟨rfl, rfl⟩ := trodVars_none hV
  obtain ⟨c0, rfl, hs0⟩ := okWide_struct Try.underlying26 (hval 0 26 v0 rfl rfl)
  have k0 := h0
  have lt0 : ∀ x ∈ p0, x.block < W.heap.size := by obtain ⟨m, hm⟩ := k0; exact DataW.trod_lt m _ _ _ hm
  obtain ⟨g0, A0, cp0, e0, hl0, hrow0⟩ : ∃ (g : Gnd) (A : Option Addr) (cp : Nat), c0.toList = [.slice A g.cells.length cp, vi g.slo, vi g.shi, vi g.klo, vi g.khi, vi g.melt] ∧ g.cells.length ≤ maxLen ∧ Row cellL 7 W W.heap.size A g.cells := by
    obtain ⟨fuel, hf⟩ := h0
    exact ground_open hf
  obtain rfl : c0 = gndC A0 cp0 g0 := by cases c0; simp_all
  obtain ⟨a1, len1, cap1, rfl⟩ := okWide_slice Try.underlying27 (hval 1 27 v1 rfl rfl)
  have k1 := h1
  have lt1 : ∀ x ∈ p1, x.block < W.heap.size := by obtain ⟨m, hm⟩ := k1; exact DataW.trod_lt m _ _ _ hm
  obtain ⟨D1, l1, dp1, e1, hl1, hrow1⟩ : ∃ (D : Option Addr) (l : List Day) (dp : Nat), (Value.slice a1 len1 cap1).cells.toList = [.slice D l.length dp] ∧ l.length ≤ maxLen ∧ Row dayL 3 W W.heap.size D l := by
    obtain ⟨fuel, hf⟩ := h1
    exact days_open hf
  simp [Value.cells] at e1
  obtain ⟨rfl, rfl, rfl⟩ := e1
  obtain ⟨a2, rfl, rfl, rfl, w2⟩ := open_int Try.underlying3 (hval 2 3 v2 rfl rfl) h2
  obtain ⟨a3, rfl, rfl, rfl, w3⟩ := open_int Try.underlying3 (hval 3 3 v3 rfl rfl) h3
  clear hA0 hval0
  refine (waterLeasts_walk g0 A0 cp0 l1 a1 cap1 a2 a3 W hrow0 hrow1).mono fun e W' ⟨he, bel⟩ => ?_
  subst he
  exact ⟨_, rfl, _, _, _, [], _, [], hW', trodAll_mk1 (shut_bool Try.underlying4 _), (trodAll_cons_mk (Below.trod Try.laidOut (by kernel_rfl) (of_decide_eq_true (by kernel_rfl)) k0 bel lt0) (trodAll_cons_mk (Below.trod Try.laidOut (by kernel_rfl) (of_decide_eq_true (by kernel_rfl)) k1 bel lt1) (trodAll_cons_mk (shut_int Try.underlying3 w2) (trodAll_cons_mk (shut_int Try.underlying3 w3) trodAll_mk0)))), rfl, bel.frame _, fun h => by cases h⟩

theorem waterLeasts_holds : Rows.WaterLeastsSaid :=
  OpenClaim.holds_of_wide 4 Try.f4 rfl rfl rfl rfl rfl rfl rfl ⟨rfl, rfl, rfl, rfl, rfl⟩ rfl rfl rfl rfl rfl (by kernel_rfl) Try.func4 (by kernel_rfl)
    (of_decide_eq_true (by kernel_rfl)) (by unfold Func.isWrapper; first | (rw [if_pos (by decide +kernel)]; kernel_rfl) | (rw [if_neg (by decide +kernel)]; exact ⟨rfl, rfl⟩))
    (fun os started H enc _ => waterLeasts_lifted os started H enc)
#print axioms waterLeasts_holds
end Go.Proofs.Yteonkhohloabfaa
