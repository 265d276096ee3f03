/- The law WaterLearns, walked: it returns true, whatever it is given. -/
import Derived.Test.YteonkhohloabfaaBT
namespace Go.Proofs.Yteonkhohloabfaa
open Go.ChangeShapes Go.WideShapes Go.ChangeAt Go.RowKit Go.Deep

/-- The law's boxes. -/
structure Ln (w : World) (g : Gnd) (A : Option Addr) (cp : Nat) (days : List Day) (D : Option Addr) (b : Nat) (x y : Int) (W : World) : Prop where
  lw : Lh w g A cp days D W
  rb : Whole W b 36 #[vi x, vi y]
theorem Ln.next {w W W' : World} {g : Gnd} {A : Option Addr} {cp : Nat} {days : List Day} {D : Option Addr} {b : Nat} {x y : Int} (h : Ln w g A cp days D b x y W) (hb : newer W W') : Ln w g A cp days D b x y W' := ⟨h.lw.next hb, h.rb.below hb h.rb.lt⟩

set_option maxRecDepth 100000 in
set_option maxHeartbeats 4000000 in
theorem waterLearns_walk (g : Gnd) (A : Option Addr) (cp : Nat) (days : List Day) (D : Option Addr) (dp : Nat) (l : List Rdg) (R : Option Addr) (rp : Nat) (soak : Int) (w : World)
    (hs0 : 0 ≤ soak) (hs1 : soak ≤ 65535)
    (hc : Row cellL 7 w w.heap.size A g.cells) (hd : Row dayL 3 w w.heap.size D days) (hr : Row rdgL 4 w w.heap.size R l) :
    Calls Try.prog 13 #[gndV A cp g, .slice D days.length dp, .slice R l.length rp, .int .u16 soak] w fun e w' => e = .returned (.bool true) ∧ Below w.heap.size w w' := by
  have HR := Lib.hid hr
  have H0 := Lib.hid (Lh.made (cp := cp) hc hd)
  have HT := Lib.hid (thin_any g cp A days.length dp D (w.alloc (.cells (gndC A cp g) 26)))
  clear hc hd hr
  cases ht : thinB g.cells.length days.length
  · rw [ht] at HT
    clear ht
    go_enter Try.func13, Try.ntmps13
    go_wp2_with fail
    refine (HT.out).mono ?_
    rintro e w1 ⟨rfl, hb1⟩
    have H1 := Lib.hid (H0.out.next hb1)
    clear hb1 HT H0
    go_wp2_with fail
    refine (wakes_any _).mono ?_
    rintro e w2 ⟨rfl, hb2⟩
    have HF := Lib.hid (below_next H1.out.below hb2)
    clear hb2 H1
    go_wp2_with fail
    go_ret
    exact ⟨rfl, HF.out⟩
  · have hsz : g.cells.length ≤ 10 ∧ days.length ≤ 35 := by simpa [thinB] using ht
    rw [ht] at HT
    clear ht
    by_cases h35 : 35 < l.length
    · have hli : (35 : Int) < l.length := by omega
      go_enter Try.func13, Try.ntmps13
      go_wp2_with fail
      refine (HT.out).mono ?_
      rintro e w1 ⟨rfl, hb1⟩
      have H1 := Lib.hid (H0.out.next hb1)
      clear hb1 HT H0
      go_wp2_with fail
      refine (wakes_any _).mono ?_
      rintro e w2 ⟨rfl, hb2⟩
      have HF := Lib.hid (below_next H1.out.below hb2)
      clear hb2 H1
      go_wp2_with fail
      go_ret
      exact ⟨rfl, HF.out⟩
    · have hli : ¬ ((35 : Int) < l.length) := by omega
      obtain ⟨er, her⟩ : ∃ er, er = lnErr g days l := ⟨_, rfl⟩
      have HER := Lib.hid her
      go_enter Try.func13, Try.ntmps13
      go_wp2_with fail
      refine (HT.out).mono ?_
      rintro e w1 ⟨rfl, hb1⟩
      have H1 := Lib.hid (H0.out.next hb1)
      clear hb1 HT H0
      have g0 := (H1.out.gb).at 0 (v := .slice A g.cells.length cp) rfl
      have g1 := (H1.out.gb).at 1 (v := vi g.slo) rfl
      have g2 := (H1.out.gb).at 2 (v := vi g.shi) rfl
      have g3 := (H1.out.gb).at 3 (v := vi g.klo) rfl
      have g4 := (H1.out.gb).at 4 (v := vi g.khi) rfl
      have g5 := (H1.out.gb).at 5 (v := vi g.melt) rfl
      go_wp2_with fail
      refine (lawGround g A cp w1 (by omega) H1.out.hc).mono ?_
      rintro e w2 ⟨A2, c2, rfl, hr2, hb2⟩
      have H2 := Lib.hid (And.intro (H1.out.next hb2) hr2)
      clear hr2 hb2 H1 g0 g1 g2 g3 g4 g5
      go_wp2_with fail
      refine (lawDays days D dp w2 (by omega) H2.out.1.hd).mono ?_
      rintro e w3 ⟨A3, c3, rfl, hr3, hb3⟩
      have H3 := Lib.hid (And.intro (H2.out.1.next hb3) (And.intro ((H2.out.2.below hb3).more hb3.size) hr3))
      clear hr3 hb3 H2
      go_wp2_with fail
      refine (lawReadings l R rp w3 (by omega) ((HR.out.below H3.out.1.below).more H3.out.1.below.size)).mono ?_
      rintro e w4 ⟨⟨v4, rfl, A4, c4, rfl, hr4⟩, hb4⟩
      have H4 := Lib.hid (And.intro (H3.out.1.next hb4) (And.intro ((H3.out.2.1.below hb4).more hb4.size) (And.intro ((H3.out.2.2.below hb4).more hb4.size) hr4)))
      clear hr4 hb4 H3
      by_cases he0 : er = 0
      · subst he0
        have HLN := Lib.hid (learn_yes g A2 c2 days A3 c3 l A4 c4 w4 H4.out.2.1 H4.out.2.2.1 H4.out.2.2.2 her.symm)
        obtain ⟨hfz, hlen, hall, hkn⟩ := lnErr_zero her.symm
        have hlf : lnF g days l = 0 := by
          unfold lnF
          rw [if_neg (by omega), if_pos hall, if_pos hkn]
        have HF := Lib.hid (And.intro hfz (And.intro hall hlf))
        clear her hfz hall hlf hkn HER
        go_wp2_with fail
        refine (HLN.out).mono ?_
        rintro e w5 ⟨⟨v5, rfl, n, m, hn, hm, rfl⟩, hb5⟩
        have H5' := Lib.hid (H4.out.1.next hb5)
        obtain ⟨hi, hhi⟩ : ∃ hi, hi = m - 1 := ⟨_, rfl⟩
        have hag : ∀ s W, g.klo ≤ s → s ≤ g.khi → Lh w g A cp days D W → Calls Try.prog 45 #[gndV A cp g, .slice D days.length dp, .slice R l.length rp, vi s] W fun e w' => e = .returned (.bool (inB s n hi)) ∧ newer W w' := by
          intro s W h0 h1 hW
          have := agrees_any g A cp days D dp l R rp s W HF.out.1 h0 h1 hlen HF.out.2.1 hW.hc hW.hd ((HR.out.below hW.below).more hW.below.size)
          rw [learn_says HF.out.1 HF.out.2.1 hn hm h0 h1, ← hhi] at this
          exact this
        have HAG := Lib.hid hag
        have k1 := hn.le1
        have k2 := hn.le3
        have k3 := hm.le1
        have k4 := hm.le3
        rw [← hhi] at k4
        have hg := (fault_zero HF.out.1).1
        simp only [gndB, Bool.and_eq_true, inB, upB, decide_eq_true_eq] at hg
        obtain ⟨⟨⟨⟨⟨_, _⟩, _⟩, hgk⟩, _⟩, _⟩ := hg
        have u0 := hgk.1.1
        have u1 := hgk.1.2
        have u2 := hgk.2
        obtain ⟨ra, hra⟩ : ∃ ra : Int, soak % (g.khi - g.klo + 1) = ra := ⟨_, rfl⟩
        have ra0 : 0 ≤ ra := by rw [← hra]; exact Int.emod_nonneg _ (by omega)
        have ra1 : ra < g.khi - g.klo + 1 := by rw [← hra]; exact Int.emod_lt_of_pos _ (by omega)
        have z1 : soak.tmod (g.khi - g.klo + 1) = ra := by rw [Int.tmod_eq_emod_of_nonneg hs0]; exact hra
        have z2 : ¬ (g.khi - g.klo + 1 = 0) := by omega
        have z3 : IntKind.i64.wrap soak = soak := IntWalk.i64_in _ (by omega)
        have z4 : IntKind.i64.wrap (g.khi - g.klo) = g.khi - g.klo := IntWalk.i64_in _ (by omega)
        have z5 : IntKind.i64.wrap (g.khi - g.klo + 1) = g.khi - g.klo + 1 := IntWalk.i64_in _ (by omega)
        have z6 : IntKind.i64.wrap ra = ra := IntWalk.i64_in _ (by omega)
        have z7 : IntKind.i64.wrap (g.klo + ra) = g.klo + ra := IntWalk.i64_in _ (by omega)
        clear hra hgk hag hn hm hb5 HLN H4
        by_cases hlt : hi < n
        · have HN : Hid (∀ s, inB s n hi = false) := Lib.hid (fun s => by
            rw [Bool.eq_false_iff]
            intro h
            simp only [inB, Bool.and_eq_true, decide_eq_true_eq] at h
            omega)
          rw [if_pos (by omega)]
          have H5 := Lib.hid (Ln.mk (H5'.out.alloc (.cells #[vi 0, vi 0] 36)) (Whole.made w5 36 #[vi 0, vi 0]))
          clear H5' hhi
          have g0 := (H5.out.lw.gb).at 0 (v := .slice A g.cells.length cp) rfl
          have g1 := (H5.out.lw.gb).at 1 (v := vi g.slo) rfl
          have g2 := (H5.out.lw.gb).at 2 (v := vi g.shi) rfl
          have g3 := (H5.out.lw.gb).at 3 (v := vi g.klo) rfl
          have g4 := (H5.out.lw.gb).at 4 (v := vi g.khi) rfl
          have g5 := (H5.out.lw.gb).at 5 (v := vi g.melt) rfl
          go_wp2_with fail
          have HFT := Lib.hid (fault_any g cp A days dp D _ (by omega) (by omega) H5.out.lw.hc H5.out.lw.hd)
          rw [HF.out.1] at HFT
          refine (HFT.out).mono ?_
          rintro e w6 ⟨rfl, hb6⟩
          have H6 := Lib.hid (H5.out.next hb6)
          clear hb6 H5 HFT g0 g1 g2 g3 g4 g5
          have g0 := (H6.out.lw.gb).at 0 (v := .slice A g.cells.length cp) rfl
          have g1 := (H6.out.lw.gb).at 1 (v := vi g.slo) rfl
          have g2 := (H6.out.lw.gb).at 2 (v := vi g.shi) rfl
          have g3 := (H6.out.lw.gb).at 3 (v := vi g.klo) rfl
          have g4 := (H6.out.lw.gb).at 4 (v := vi g.khi) rfl
          have g5 := (H6.out.lw.gb).at 5 (v := vi g.melt) rfl
          go_wp2_with fail
          have HFL := Lib.hid (learnFault_any g A cp days D dp l R rp w6 (by omega) (by omega) (by omega) H6.out.lw.hc H6.out.lw.hd ((HR.out.below H6.out.lw.below).more H6.out.lw.below.size))
          rw [HF.out.2.2] at HFL
          refine (HFL.out).mono ?_
          rintro e w7 ⟨rfl, hb7⟩
          have H7 := Lib.hid (H6.out.next hb7)
          clear hb7 H6 HFL g0 g1 g2 g3 g4 g5
          have g0 := (H7.out.lw.gb).at 0 (v := .slice A g.cells.length cp) rfl
          have g1 := (H7.out.lw.gb).at 1 (v := vi g.slo) rfl
          have g2 := (H7.out.lw.gb).at 2 (v := vi g.shi) rfl
          have g3 := (H7.out.lw.gb).at 3 (v := vi g.klo) rfl
          have g4 := (H7.out.lw.gb).at 4 (v := vi g.khi) rfl
          have g5 := (H7.out.lw.gb).at 5 (v := vi g.melt) rfl
          go_wp2_with fail
          go_quiet (fail)
          have H8 := Lib.hid (H7.out.next (newer_drewN w7 nq))
          clear H7 g0 g1 g2 g3 g4 g5 z1 z2 z3 z4 z5 z6 z7
          generalize w7.drewN nq = w8 at H8 ⊢
          have g0 := (H8.out.lw.gb).at 0 (v := .slice A g.cells.length cp) rfl
          have g1 := (H8.out.lw.gb).at 1 (v := vi g.slo) rfl
          have g2 := (H8.out.lw.gb).at 2 (v := vi g.shi) rfl
          have g3 := (H8.out.lw.gb).at 3 (v := vi g.klo) rfl
          have g4 := (H8.out.lw.gb).at 4 (v := vi g.khi) rfl
          have g5 := (H8.out.lw.gb).at 5 (v := vi g.melt) rfl
          have x0 := H8.out.rb.at 0 rfl
          have x1 := H8.out.rb.at 1 rfl
          go_wp2_with fail
          have HA1 := Lib.hid (HAG.out (g.klo + ra) _ (by omega) (by omega) H8.out.lw)
          rw [HN.out] at HA1
          refine (HA1.out).mono ?_
          rintro e w9 ⟨rfl, hb9⟩
          have H9 := Lib.hid (H8.out.next hb9)
          clear hb9 H8 HA1 g0 g1 g2 g3 g4 g5 x0 x1
          have g0 := (H9.out.lw.gb).at 0 (v := .slice A g.cells.length cp) rfl
          have g1 := (H9.out.lw.gb).at 1 (v := vi g.slo) rfl
          have g2 := (H9.out.lw.gb).at 2 (v := vi g.shi) rfl
          have g3 := (H9.out.lw.gb).at 3 (v := vi g.klo) rfl
          have g4 := (H9.out.lw.gb).at 4 (v := vi g.khi) rfl
          have g5 := (H9.out.lw.gb).at 5 (v := vi g.melt) rfl
          go_wp2_with fail
          have HA1 := Lib.hid (HAG.out g.klo _ (by omega) (by omega) H9.out.lw)
          rw [HN.out] at HA1
          refine (HA1.out).mono ?_
          rintro e w10 ⟨rfl, hb9⟩
          have H8 := Lib.hid (H9.out.next hb9)
          clear hb9 H9 HA1 g0 g1 g2 g3 g4 g5
          have g0 := (H8.out.lw.gb).at 0 (v := .slice A g.cells.length cp) rfl
          have g1 := (H8.out.lw.gb).at 1 (v := vi g.slo) rfl
          have g2 := (H8.out.lw.gb).at 2 (v := vi g.shi) rfl
          have g3 := (H8.out.lw.gb).at 3 (v := vi g.klo) rfl
          have g4 := (H8.out.lw.gb).at 4 (v := vi g.khi) rfl
          have g5 := (H8.out.lw.gb).at 5 (v := vi g.melt) rfl
          go_wp2_with fail
          have HA1 := Lib.hid (HAG.out g.khi _ (by omega) (by omega) H8.out.lw)
          rw [HN.out] at HA1
          refine (HA1.out).mono ?_
          rintro e w11 ⟨rfl, hb9⟩
          have H9 := Lib.hid (H8.out.next hb9)
          clear hb9 H8 HA1 g0 g1 g2 g3 g4 g5
          go_wp2_with fail
          refine (wakes_any _).mono ?_
          rintro e w12 ⟨rfl, hb8⟩
          have HF := Lib.hid (below_next H9.out.lw.below hb8)
          clear hb8 H9
          go_wp2_with fail
          go_ret
          exact ⟨rfl, HF.out⟩
        · have hnh : n ≤ hi := by omega
          have hnk : ¬ (n < g.klo) := by omega
          have hhk : ¬ (g.khi < hi) := by omega
          have z8 : IntKind.i64.wrap (n - 1) = n - 1 := IntWalk.i64_in _ (by omega)
          have z9 : IntKind.i64.wrap (hi + 1) = hi + 1 := IntWalk.i64_in _ (by omega)
          have HIN : Hid (∀ s, n ≤ s → s ≤ hi → inB s n hi = true) := Lib.hid (fun s h1 h2 => by
            simp only [inB, Bool.and_eq_true, decide_eq_true_eq]
            omega)
          have HOUT : Hid (∀ s, s < n ∨ hi < s → inB s n hi = false) := Lib.hid (fun s h => by
            rw [Bool.eq_false_iff]
            intro h
            simp only [inB, Bool.and_eq_true, decide_eq_true_eq] at h
            omega)
          rw [if_neg (by omega), ← hhi]
          have H5 := Lib.hid (Ln.mk (H5'.out.alloc (.cells #[vi n, vi hi] 36)) (Whole.made w5 36 #[vi n, vi hi]))
          clear H5' hhi
          have g0 := (H5.out.lw.gb).at 0 (v := .slice A g.cells.length cp) rfl
          have g1 := (H5.out.lw.gb).at 1 (v := vi g.slo) rfl
          have g2 := (H5.out.lw.gb).at 2 (v := vi g.shi) rfl
          have g3 := (H5.out.lw.gb).at 3 (v := vi g.klo) rfl
          have g4 := (H5.out.lw.gb).at 4 (v := vi g.khi) rfl
          have g5 := (H5.out.lw.gb).at 5 (v := vi g.melt) rfl
          go_wp2_with fail
          have HFT := Lib.hid (fault_any g cp A days dp D _ (by omega) (by omega) H5.out.lw.hc H5.out.lw.hd)
          rw [HF.out.1] at HFT
          refine (HFT.out).mono ?_
          rintro e w6 ⟨rfl, hb6⟩
          have H6 := Lib.hid (H5.out.next hb6)
          clear hb6 H5 HFT g0 g1 g2 g3 g4 g5
          have g0 := (H6.out.lw.gb).at 0 (v := .slice A g.cells.length cp) rfl
          have g1 := (H6.out.lw.gb).at 1 (v := vi g.slo) rfl
          have g2 := (H6.out.lw.gb).at 2 (v := vi g.shi) rfl
          have g3 := (H6.out.lw.gb).at 3 (v := vi g.klo) rfl
          have g4 := (H6.out.lw.gb).at 4 (v := vi g.khi) rfl
          have g5 := (H6.out.lw.gb).at 5 (v := vi g.melt) rfl
          go_wp2_with fail
          have HFL := Lib.hid (learnFault_any g A cp days D dp l R rp w6 (by omega) (by omega) (by omega) H6.out.lw.hc H6.out.lw.hd ((HR.out.below H6.out.lw.below).more H6.out.lw.below.size))
          rw [HF.out.2.2] at HFL
          refine (HFL.out).mono ?_
          rintro e w7 ⟨rfl, hb7⟩
          have H7 := Lib.hid (H6.out.next hb7)
          clear hb7 H6 HFL g0 g1 g2 g3 g4 g5
          have g0 := (H7.out.lw.gb).at 0 (v := .slice A g.cells.length cp) rfl
          have g1 := (H7.out.lw.gb).at 1 (v := vi g.slo) rfl
          have g2 := (H7.out.lw.gb).at 2 (v := vi g.shi) rfl
          have g3 := (H7.out.lw.gb).at 3 (v := vi g.klo) rfl
          have g4 := (H7.out.lw.gb).at 4 (v := vi g.khi) rfl
          have g5 := (H7.out.lw.gb).at 5 (v := vi g.melt) rfl
          go_wp2_with fail
          go_quiet (fail)
          have H8 := Lib.hid (H7.out.next (newer_drewN w7 nq))
          clear H7 g0 g1 g2 g3 g4 g5 z1 z2 z3 z4 z5 z6 z7
          generalize w7.drewN nq = w8 at H8 ⊢
          have g0 := (H8.out.lw.gb).at 0 (v := .slice A g.cells.length cp) rfl
          have g1 := (H8.out.lw.gb).at 1 (v := vi g.slo) rfl
          have g2 := (H8.out.lw.gb).at 2 (v := vi g.shi) rfl
          have g3 := (H8.out.lw.gb).at 3 (v := vi g.klo) rfl
          have g4 := (H8.out.lw.gb).at 4 (v := vi g.khi) rfl
          have g5 := (H8.out.lw.gb).at 5 (v := vi g.melt) rfl
          have x0 := H8.out.rb.at 0 rfl
          have x1 := H8.out.rb.at 1 rfl
          go_wp2_with fail
          have HA1 := Lib.hid (HAG.out n _ (by omega) (by omega) H8.out.lw)
          rw [HIN.out _ (by omega) (by omega)] at HA1
          refine (HA1.out).mono ?_
          rintro e w9 ⟨rfl, hb9⟩
          have H9 := Lib.hid (H8.out.next hb9)
          clear hb9 H8 HA1 g0 g1 g2 g3 g4 g5 x0 x1
          have g0 := (H9.out.lw.gb).at 0 (v := .slice A g.cells.length cp) rfl
          have g1 := (H9.out.lw.gb).at 1 (v := vi g.slo) rfl
          have g2 := (H9.out.lw.gb).at 2 (v := vi g.shi) rfl
          have g3 := (H9.out.lw.gb).at 3 (v := vi g.klo) rfl
          have g4 := (H9.out.lw.gb).at 4 (v := vi g.khi) rfl
          have g5 := (H9.out.lw.gb).at 5 (v := vi g.melt) rfl
          have x0 := H9.out.rb.at 0 rfl
          have x1 := H9.out.rb.at 1 rfl
          go_wp2_with fail
          have HA1 := Lib.hid (HAG.out hi _ (by omega) (by omega) H9.out.lw)
          rw [HIN.out _ (by omega) (by omega)] at HA1
          refine (HA1.out).mono ?_
          rintro e w10 ⟨rfl, hb9⟩
          have H8 := Lib.hid (H9.out.next hb9)
          clear hb9 H9 HA1 g0 g1 g2 g3 g4 g5 x0 x1
          have HM : Hid (∀ (s : Int), s = s) := Lib.hid fun _ => rfl
          by_cases j1 : g.klo < n
          · have g0 := (H8.out.lw.gb).at 0 (v := .slice A g.cells.length cp) rfl
            have g1 := (H8.out.lw.gb).at 1 (v := vi g.slo) rfl
            have g2 := (H8.out.lw.gb).at 2 (v := vi g.shi) rfl
            have g3 := (H8.out.lw.gb).at 3 (v := vi g.klo) rfl
            have g4 := (H8.out.lw.gb).at 4 (v := vi g.khi) rfl
            have g5 := (H8.out.lw.gb).at 5 (v := vi g.melt) rfl
            have x0 := H8.out.rb.at 0 rfl
            have x1 := H8.out.rb.at 1 rfl
            go_wp2_with fail
            have HA1 := Lib.hid (HAG.out (n - 1) _ (by omega) (by omega) H8.out.lw)
            rw [HOUT.out _ (by omega)] at HA1
            refine (HA1.out).mono ?_
            rintro e w11 ⟨rfl, hb9⟩
            have H9 := Lib.hid (H8.out.next hb9)
            clear hb9 H8 HA1 g0 g1 g2 g3 g4 g5 x0 x1
            by_cases j2 : hi < g.khi
            · have g0 := (H9.out.lw.gb).at 0 (v := .slice A g.cells.length cp) rfl
              have g1 := (H9.out.lw.gb).at 1 (v := vi g.slo) rfl
              have g2 := (H9.out.lw.gb).at 2 (v := vi g.shi) rfl
              have g3 := (H9.out.lw.gb).at 3 (v := vi g.klo) rfl
              have g4 := (H9.out.lw.gb).at 4 (v := vi g.khi) rfl
              have g5 := (H9.out.lw.gb).at 5 (v := vi g.melt) rfl
              have x0 := H9.out.rb.at 0 rfl
              have x1 := H9.out.rb.at 1 rfl
              go_wp2_with fail
              have HA1 := Lib.hid (HAG.out (hi + 1) _ (by omega) (by omega) H9.out.lw)
              rw [HOUT.out _ (by omega)] at HA1
              refine (HA1.out).mono ?_
              rintro e w12 ⟨rfl, hb9⟩
              have H8 := Lib.hid (H9.out.next hb9)
              clear hb9 H9 HA1 g0 g1 g2 g3 g4 g5 x0 x1
              have g0 := (H8.out.lw.gb).at 0 (v := .slice A g.cells.length cp) rfl
              have g1 := (H8.out.lw.gb).at 1 (v := vi g.slo) rfl
              have g2 := (H8.out.lw.gb).at 2 (v := vi g.shi) rfl
              have g3 := (H8.out.lw.gb).at 3 (v := vi g.klo) rfl
              have g4 := (H8.out.lw.gb).at 4 (v := vi g.khi) rfl
              have g5 := (H8.out.lw.gb).at 5 (v := vi g.melt) rfl
              have x0 := H8.out.rb.at 0 rfl
              have x1 := H8.out.rb.at 1 rfl
              obtain ⟨bb, hbb⟩ : ∃ bb, bb = inB (g.klo + ra) n hi := ⟨_, rfl⟩
              have HBB := Lib.hid hbb
              clear hbb
              go_wp2_with fail
              refine wp_words (by kernel_rfl) (region_told_s 15 (by kernel_rfl) (by kernel_rfl) [false, false, false, false, false, false, false, false, false, false, false, false, false, false, false] (fun W => Below w12.heap.size w12 W) newer [vIs (gndV A cp g), vIs (.slice D days.length dp), vIs (.slice R l.length rp), vIs (vi (g.klo + ra)), vIs (.bool bb), vIs (vi (g.klo + ra)), vIs (.pointer (some ⟨w5.heap.size, 0, none⟩)), vIs (vi n), vIs (.pointer (some ⟨w5.heap.size, 1, none⟩)), vIs (vi hi), vIs (.bool bb), vIs (.bool true), vIs (.bool true), vIs (.bool true), vIs (.bool true)] ⟨rfl, rfl, rfl, rfl, rfl, rfl, rfl, rfl, rfl, rfl, rfl, rfl, rfl, (fun _ _ h => h), rfl, trivial⟩ ⟨(fun h => absurd h (by decide)), (fun h => absurd h (by decide)), (fun h => absurd h (by decide)), (fun h => absurd h (by decide)), (fun h => absurd h (by decide)), (fun h => absurd h (by decide)), (fun h => absurd h (by decide)), (fun h => absurd h (by decide)), (fun h => absurd h (by decide)), (fun h => absurd h (by decide)), (fun h => absurd h (by decide)), (fun h => absurd h (by decide)), (fun h => absurd h (by decide)), (fun h => absurd h (by decide)), (fun h => absurd h (by decide)), trivial⟩ (fun h k => newer_trans h k) (pickD_stable _ ⟨vIs_st, vIs_st, vIs_st, vIs_st, vIs_st, vIs_st, vIs_st, vIs_st, vIs_st, vIs_st, vIs_st, vIs_st, vIs_st, vIs_st, vIs_st, trivial⟩) (Below.refl _ w12).drew (Below.refl _ _) ?_ ?_)
              · refine ⟨.inr ?_, .inr ?_, .inr ?_, .inr ?_, .inr ?_, .inr ?_, .inr ?_, .inr ?_, .inr ?_, .inr ?_, .inr ?_, .inr ?_, .inr ?_, .inr ?_, .inr ?_, trivial⟩
                · intro a W hG hR hO hp
                  have h4 := hO.slot 4 (by kernel_rfl)
                  have c0 := keep_cell g0 hG
                  have c1 := keep_cell g1 hG
                  have c2 := keep_cell g2 hG
                  have c3 := keep_cell g3 hG
                  have c4 := keep_cell g4 hG
                  have c5 := keep_cell g5 hG
                  refine wp_yields (v := gndV A cp g) ?_ ⟨_, rfl, rfl, Below.refl _ _, hG⟩
                  simp [slotOf] at h4
                  simp [execOp, go_sem, h4, c0, c1, c2, c3, c4, c5]
                · intro a W hG hR hO hp
                  have h1 := hO.slot 1 (by kernel_rfl)
                  refine wp_yields (v := .slice D days.length dp) ?_ ⟨_, rfl, rfl, Below.refl _ _, hG⟩
                  simp [slotOf] at h1
                  simp [execOp, go_sem, h1]
                · intro a W hG hR hO hp
                  have h2 := hO.slot 2 (by kernel_rfl)
                  refine wp_yields (v := .slice R l.length rp) ?_ ⟨_, rfl, rfl, Below.refl _ _, hG⟩
                  simp [slotOf] at h2
                  simp [execOp, go_sem, h2]
                · intro a W hG hR hO hp
                  have h12 := hO.slot 12 (by kernel_rfl)
                  refine wp_yields (v := vi (g.klo + ra)) ?_ ⟨_, rfl, rfl, Below.refl _ _, hG⟩
                  simp [slotOf] at h12
                  simp [execOp, go_sem, h12]
                · intro a W hG hR hO hp
                  have h183 : slotOf a 183 = gndV A cp g := hp.1
                  have h184 : slotOf a 184 = .slice D days.length dp := hp.2.1
                  have h185 : slotOf a 185 = .slice R l.length rp := hp.2.2.1
                  have h186 : slotOf a 186 = vi (g.klo + ra) := hp.2.2.2.1
                  refine wp_enters (f := 45) (args := #[gndV A cp g, .slice D days.length dp, .slice R l.length rp, vi (g.klo + ra)]) ?_ ((HAG.out (g.klo + ra) W (by omega) (by omega) (H8.out.lw.next hG)).mono ?_)
                  · simp [slotOf] at h183 h184 h185 h186
                    simp [go_sem, h183, h184, h185, h186]
                  · rintro e w' ⟨rfl, hb⟩
                    exact ⟨_, rfl, _, rfl, (by rw [HBB.out]; rfl), hb, below_next hG hb⟩
                · intro a W hG hR hO hp
                  have h12 := hO.slot 12 (by kernel_rfl)
                  refine wp_yields (v := vi (g.klo + ra)) ?_ ⟨_, rfl, rfl, Below.refl _ _, hG⟩
                  simp [slotOf] at h12
                  simp [execOp, go_sem, h12]
                · intro a W hG hR hO hp
                  have h9 := hO.slot 9 (by kernel_rfl)
                  refine wp_yields (v := .pointer (some ⟨w5.heap.size, 0, none⟩)) ?_ ⟨_, rfl, rfl, Below.refl _ _, hG⟩
                  simp [slotOf] at h9
                  simp [execOp, go_sem, h9]
                · intro a W hG hR hO hp
                  have h189 : slotOf a 189 = .pointer (some ⟨w5.heap.size, 0, none⟩) := hp.1
                  have c0 := keep_cell x0 hG
                  refine wp_yields (v := vi n) ?_ ⟨_, rfl, rfl, Below.refl _ _, hG⟩
                  simp [slotOf] at h189
                  simp [execOp, go_sem, h189, c0]
                · intro a W hG hR hO hp
                  have h9 := hO.slot 9 (by kernel_rfl)
                  refine wp_yields (v := .pointer (some ⟨w5.heap.size, 1, none⟩)) ?_ ⟨_, rfl, rfl, Below.refl _ _, hG⟩
                  simp [slotOf] at h9
                  simp [execOp, go_sem, h9]
                · intro a W hG hR hO hp
                  have h191 : slotOf a 191 = .pointer (some ⟨w5.heap.size, 1, none⟩) := hp.1
                  have c0 := keep_cell x1 hG
                  refine wp_yields (v := vi hi) ?_ ⟨_, rfl, rfl, Below.refl _ _, hG⟩
                  simp [slotOf] at h191
                  simp [execOp, go_sem, h191, c0]
                · intro a W hG hR hO hp
                  have h188 : slotOf a 188 = vi (g.klo + ra) := hp.1
                  have h190 : slotOf a 190 = vi n := hp.2.1
                  have h192 : slotOf a 192 = vi hi := hp.2.2.1
                  refine wp_enters (f := 27) (args := #[vi (g.klo + ra), vi n, vi hi]) ?_ ((in_any (g.klo + ra) n hi W).mono ?_)
                  · simp [slotOf] at h188 h190 h192
                    simp [go_sem, h188, h190, h192]
                  · rintro e w' ⟨rfl, rfl⟩
                    exact ⟨_, rfl, _, rfl, (by rw [HBB.out]; rfl), Below.refl _ _, hG⟩
                · intro a W hG hR hO hp
                  have h187 : slotOf a 187 = .bool bb := hp.1
                  have h193 : slotOf a 193 = .bool bb := hp.2.1
                  refine wp_yields (v := .bool true) ?_ ⟨_, rfl, rfl, Below.refl _ _, hG⟩
                  simp [slotOf] at h187 h193
                  simp [execOp, go_sem, h187, h193]
                · intro a W hG hR hO hp
                  have h194 : slotOf a 194 = .bool true := hp.1
                  refine wp_yields (v := .bool true) ?_ ⟨_, rfl, rfl, Below.refl _ _, hG⟩
                  simp [slotOf] at h194
                  simp [execOp, go_sem, h194]
                · intro a W hG hR hO hp
                  refine wp_enters (f := 17) (args := #[]) ?_ ((wakes_any W).mono ?_)
                  · skip
                    simp [go_sem]
                  · rintro e w' ⟨rfl, hb⟩
                    exact ⟨_, rfl, _, rfl, rfl, hb, below_next hG hb⟩
                · intro a W hG hR hO hp
                  have h195 : slotOf a 195 = .bool true := hp.1
                  have h196 : slotOf a 196 = .bool true := hp.2.1
                  refine wp_yields (v := .bool true) ?_ ⟨_, rfl, rfl, Below.refl _ _, hG⟩
                  simp [slotOf] at h195 h196
                  simp [execOp, go_sem, h195, h196]
              · intro W hG hR
                rintro _ rfl _ rfl _ rfl _ rfl _ rfl _ rfl _ rfl _ rfl _ rfl _ rfl _ rfl _ rfl _ rfl _ rfl _ rfl
                change wpList _ _ _ _ _ _
                simp only [Act.put, List.setIfInBounds_toArray, List.set_cons_zero, List.set_cons_succ, List.drop_succ_cons, List.drop_zero]
                have HF := Lib.hid (below_next H8.out.lw.below hG)
                clear hG hR H8 g0 g1 g2 g3 g4 g5 x0 x1
                go_wp2_with fail
                go_ret
                exact ⟨rfl, HF.out⟩
            · have H8 := H9
              clear H9
              have g0 := (H8.out.lw.gb).at 0 (v := .slice A g.cells.length cp) rfl
              have g1 := (H8.out.lw.gb).at 1 (v := vi g.slo) rfl
              have g2 := (H8.out.lw.gb).at 2 (v := vi g.shi) rfl
              have g3 := (H8.out.lw.gb).at 3 (v := vi g.klo) rfl
              have g4 := (H8.out.lw.gb).at 4 (v := vi g.khi) rfl
              have g5 := (H8.out.lw.gb).at 5 (v := vi g.melt) rfl
              have x0 := H8.out.rb.at 0 rfl
              have x1 := H8.out.rb.at 1 rfl
              obtain ⟨bb, hbb⟩ : ∃ bb, bb = inB (g.klo + ra) n hi := ⟨_, rfl⟩
              have HBB := Lib.hid hbb
              clear hbb
              go_wp2_with fail
              refine wp_words (by kernel_rfl) (region_told_s 15 (by kernel_rfl) (by kernel_rfl) [false, false, false, false, false, false, false, false, false, false, false, false, false, false, false] (fun W => Below w11.heap.size w11 W) newer [vIs (gndV A cp g), vIs (.slice D days.length dp), vIs (.slice R l.length rp), vIs (vi (g.klo + ra)), vIs (.bool bb), vIs (vi (g.klo + ra)), vIs (.pointer (some ⟨w5.heap.size, 0, none⟩)), vIs (vi n), vIs (.pointer (some ⟨w5.heap.size, 1, none⟩)), vIs (vi hi), vIs (.bool bb), vIs (.bool true), vIs (.bool true), vIs (.bool true), vIs (.bool true)] ⟨rfl, rfl, rfl, rfl, rfl, rfl, rfl, rfl, rfl, rfl, rfl, rfl, rfl, (fun _ _ h => h), rfl, trivial⟩ ⟨(fun h => absurd h (by decide)), (fun h => absurd h (by decide)), (fun h => absurd h (by decide)), (fun h => absurd h (by decide)), (fun h => absurd h (by decide)), (fun h => absurd h (by decide)), (fun h => absurd h (by decide)), (fun h => absurd h (by decide)), (fun h => absurd h (by decide)), (fun h => absurd h (by decide)), (fun h => absurd h (by decide)), (fun h => absurd h (by decide)), (fun h => absurd h (by decide)), (fun h => absurd h (by decide)), (fun h => absurd h (by decide)), trivial⟩ (fun h k => newer_trans h k) (pickD_stable _ ⟨vIs_st, vIs_st, vIs_st, vIs_st, vIs_st, vIs_st, vIs_st, vIs_st, vIs_st, vIs_st, vIs_st, vIs_st, vIs_st, vIs_st, vIs_st, trivial⟩) (Below.refl _ w11).drew (Below.refl _ _) ?_ ?_)
              · refine ⟨.inr ?_, .inr ?_, .inr ?_, .inr ?_, .inr ?_, .inr ?_, .inr ?_, .inr ?_, .inr ?_, .inr ?_, .inr ?_, .inr ?_, .inr ?_, .inr ?_, .inr ?_, trivial⟩
                · intro a W hG hR hO hp
                  have h4 := hO.slot 4 (by kernel_rfl)
                  have c0 := keep_cell g0 hG
                  have c1 := keep_cell g1 hG
                  have c2 := keep_cell g2 hG
                  have c3 := keep_cell g3 hG
                  have c4 := keep_cell g4 hG
                  have c5 := keep_cell g5 hG
                  refine wp_yields (v := gndV A cp g) ?_ ⟨_, rfl, rfl, Below.refl _ _, hG⟩
                  simp [slotOf] at h4
                  simp [execOp, go_sem, h4, c0, c1, c2, c3, c4, c5]
                · intro a W hG hR hO hp
                  have h1 := hO.slot 1 (by kernel_rfl)
                  refine wp_yields (v := .slice D days.length dp) ?_ ⟨_, rfl, rfl, Below.refl _ _, hG⟩
                  simp [slotOf] at h1
                  simp [execOp, go_sem, h1]
                · intro a W hG hR hO hp
                  have h2 := hO.slot 2 (by kernel_rfl)
                  refine wp_yields (v := .slice R l.length rp) ?_ ⟨_, rfl, rfl, Below.refl _ _, hG⟩
                  simp [slotOf] at h2
                  simp [execOp, go_sem, h2]
                · intro a W hG hR hO hp
                  have h12 := hO.slot 12 (by kernel_rfl)
                  refine wp_yields (v := vi (g.klo + ra)) ?_ ⟨_, rfl, rfl, Below.refl _ _, hG⟩
                  simp [slotOf] at h12
                  simp [execOp, go_sem, h12]
                · intro a W hG hR hO hp
                  have h183 : slotOf a 183 = gndV A cp g := hp.1
                  have h184 : slotOf a 184 = .slice D days.length dp := hp.2.1
                  have h185 : slotOf a 185 = .slice R l.length rp := hp.2.2.1
                  have h186 : slotOf a 186 = vi (g.klo + ra) := hp.2.2.2.1
                  refine wp_enters (f := 45) (args := #[gndV A cp g, .slice D days.length dp, .slice R l.length rp, vi (g.klo + ra)]) ?_ ((HAG.out (g.klo + ra) W (by omega) (by omega) (H8.out.lw.next hG)).mono ?_)
                  · simp [slotOf] at h183 h184 h185 h186
                    simp [go_sem, h183, h184, h185, h186]
                  · rintro e w' ⟨rfl, hb⟩
                    exact ⟨_, rfl, _, rfl, (by rw [HBB.out]; rfl), hb, below_next hG hb⟩
                · intro a W hG hR hO hp
                  have h12 := hO.slot 12 (by kernel_rfl)
                  refine wp_yields (v := vi (g.klo + ra)) ?_ ⟨_, rfl, rfl, Below.refl _ _, hG⟩
                  simp [slotOf] at h12
                  simp [execOp, go_sem, h12]
                · intro a W hG hR hO hp
                  have h9 := hO.slot 9 (by kernel_rfl)
                  refine wp_yields (v := .pointer (some ⟨w5.heap.size, 0, none⟩)) ?_ ⟨_, rfl, rfl, Below.refl _ _, hG⟩
                  simp [slotOf] at h9
                  simp [execOp, go_sem, h9]
                · intro a W hG hR hO hp
                  have h189 : slotOf a 189 = .pointer (some ⟨w5.heap.size, 0, none⟩) := hp.1
                  have c0 := keep_cell x0 hG
                  refine wp_yields (v := vi n) ?_ ⟨_, rfl, rfl, Below.refl _ _, hG⟩
                  simp [slotOf] at h189
                  simp [execOp, go_sem, h189, c0]
                · intro a W hG hR hO hp
                  have h9 := hO.slot 9 (by kernel_rfl)
                  refine wp_yields (v := .pointer (some ⟨w5.heap.size, 1, none⟩)) ?_ ⟨_, rfl, rfl, Below.refl _ _, hG⟩
                  simp [slotOf] at h9
                  simp [execOp, go_sem, h9]
                · intro a W hG hR hO hp
                  have h191 : slotOf a 191 = .pointer (some ⟨w5.heap.size, 1, none⟩) := hp.1
                  have c0 := keep_cell x1 hG
                  refine wp_yields (v := vi hi) ?_ ⟨_, rfl, rfl, Below.refl _ _, hG⟩
                  simp [slotOf] at h191
                  simp [execOp, go_sem, h191, c0]
                · intro a W hG hR hO hp
                  have h188 : slotOf a 188 = vi (g.klo + ra) := hp.1
                  have h190 : slotOf a 190 = vi n := hp.2.1
                  have h192 : slotOf a 192 = vi hi := hp.2.2.1
                  refine wp_enters (f := 27) (args := #[vi (g.klo + ra), vi n, vi hi]) ?_ ((in_any (g.klo + ra) n hi W).mono ?_)
                  · simp [slotOf] at h188 h190 h192
                    simp [go_sem, h188, h190, h192]
                  · rintro e w' ⟨rfl, rfl⟩
                    exact ⟨_, rfl, _, rfl, (by rw [HBB.out]; rfl), Below.refl _ _, hG⟩
                · intro a W hG hR hO hp
                  have h187 : slotOf a 187 = .bool bb := hp.1
                  have h193 : slotOf a 193 = .bool bb := hp.2.1
                  refine wp_yields (v := .bool true) ?_ ⟨_, rfl, rfl, Below.refl _ _, hG⟩
                  simp [slotOf] at h187 h193
                  simp [execOp, go_sem, h187, h193]
                · intro a W hG hR hO hp
                  have h194 : slotOf a 194 = .bool true := hp.1
                  refine wp_yields (v := .bool true) ?_ ⟨_, rfl, rfl, Below.refl _ _, hG⟩
                  simp [slotOf] at h194
                  simp [execOp, go_sem, h194]
                · intro a W hG hR hO hp
                  refine wp_enters (f := 17) (args := #[]) ?_ ((wakes_any W).mono ?_)
                  · skip
                    simp [go_sem]
                  · rintro e w' ⟨rfl, hb⟩
                    exact ⟨_, rfl, _, rfl, rfl, hb, below_next hG hb⟩
                · intro a W hG hR hO hp
                  have h195 : slotOf a 195 = .bool true := hp.1
                  have h196 : slotOf a 196 = .bool true := hp.2.1
                  refine wp_yields (v := .bool true) ?_ ⟨_, rfl, rfl, Below.refl _ _, hG⟩
                  simp [slotOf] at h195 h196
                  simp [execOp, go_sem, h195, h196]
              · intro W hG hR
                rintro _ rfl _ rfl _ rfl _ rfl _ rfl _ rfl _ rfl _ rfl _ rfl _ rfl _ rfl _ rfl _ rfl _ rfl _ rfl
                change wpList _ _ _ _ _ _
                simp only [Act.put, List.setIfInBounds_toArray, List.set_cons_zero, List.set_cons_succ, List.drop_succ_cons, List.drop_zero]
                have HF := Lib.hid (below_next H8.out.lw.below hG)
                clear hG hR H8 g0 g1 g2 g3 g4 g5 x0 x1
                go_wp2_with fail
                go_ret
                exact ⟨rfl, HF.out⟩
          · by_cases j2 : hi < g.khi
            · have g0 := (H8.out.lw.gb).at 0 (v := .slice A g.cells.length cp) rfl
              have g1 := (H8.out.lw.gb).at 1 (v := vi g.slo) rfl
              have g2 := (H8.out.lw.gb).at 2 (v := vi g.shi) rfl
              have g3 := (H8.out.lw.gb).at 3 (v := vi g.klo) rfl
              have g4 := (H8.out.lw.gb).at 4 (v := vi g.khi) rfl
              have g5 := (H8.out.lw.gb).at 5 (v := vi g.melt) rfl
              have x0 := H8.out.rb.at 0 rfl
              have x1 := H8.out.rb.at 1 rfl
              go_wp2_with fail
              have HA1 := Lib.hid (HAG.out (hi + 1) _ (by omega) (by omega) H8.out.lw)
              rw [HOUT.out _ (by omega)] at HA1
              refine (HA1.out).mono ?_
              rintro e w12 ⟨rfl, hb9⟩
              have H9 := Lib.hid (H8.out.next hb9)
              clear hb9 H8 HA1 g0 g1 g2 g3 g4 g5 x0 x1
              have H8 := H9
              clear H9
              have g0 := (H8.out.lw.gb).at 0 (v := .slice A g.cells.length cp) rfl
              have g1 := (H8.out.lw.gb).at 1 (v := vi g.slo) rfl
              have g2 := (H8.out.lw.gb).at 2 (v := vi g.shi) rfl
              have g3 := (H8.out.lw.gb).at 3 (v := vi g.klo) rfl
              have g4 := (H8.out.lw.gb).at 4 (v := vi g.khi) rfl
              have g5 := (H8.out.lw.gb).at 5 (v := vi g.melt) rfl
              have x0 := H8.out.rb.at 0 rfl
              have x1 := H8.out.rb.at 1 rfl
              obtain ⟨bb, hbb⟩ : ∃ bb, bb = inB (g.klo + ra) n hi := ⟨_, rfl⟩
              have HBB := Lib.hid hbb
              clear hbb
              go_wp2_with fail
              refine wp_words (by kernel_rfl) (region_told_s 15 (by kernel_rfl) (by kernel_rfl) [false, false, false, false, false, false, false, false, false, false, false, false, false, false, false] (fun W => Below w12.heap.size w12 W) newer [vIs (gndV A cp g), vIs (.slice D days.length dp), vIs (.slice R l.length rp), vIs (vi (g.klo + ra)), vIs (.bool bb), vIs (vi (g.klo + ra)), vIs (.pointer (some ⟨w5.heap.size, 0, none⟩)), vIs (vi n), vIs (.pointer (some ⟨w5.heap.size, 1, none⟩)), vIs (vi hi), vIs (.bool bb), vIs (.bool true), vIs (.bool true), vIs (.bool true), vIs (.bool true)] ⟨rfl, rfl, rfl, rfl, rfl, rfl, rfl, rfl, rfl, rfl, rfl, rfl, rfl, (fun _ _ h => h), rfl, trivial⟩ ⟨(fun h => absurd h (by decide)), (fun h => absurd h (by decide)), (fun h => absurd h (by decide)), (fun h => absurd h (by decide)), (fun h => absurd h (by decide)), (fun h => absurd h (by decide)), (fun h => absurd h (by decide)), (fun h => absurd h (by decide)), (fun h => absurd h (by decide)), (fun h => absurd h (by decide)), (fun h => absurd h (by decide)), (fun h => absurd h (by decide)), (fun h => absurd h (by decide)), (fun h => absurd h (by decide)), (fun h => absurd h (by decide)), trivial⟩ (fun h k => newer_trans h k) (pickD_stable _ ⟨vIs_st, vIs_st, vIs_st, vIs_st, vIs_st, vIs_st, vIs_st, vIs_st, vIs_st, vIs_st, vIs_st, vIs_st, vIs_st, vIs_st, vIs_st, trivial⟩) (Below.refl _ w12).drew (Below.refl _ _) ?_ ?_)
              · refine ⟨.inr ?_, .inr ?_, .inr ?_, .inr ?_, .inr ?_, .inr ?_, .inr ?_, .inr ?_, .inr ?_, .inr ?_, .inr ?_, .inr ?_, .inr ?_, .inr ?_, .inr ?_, trivial⟩
                · intro a W hG hR hO hp
                  have h4 := hO.slot 4 (by kernel_rfl)
                  have c0 := keep_cell g0 hG
                  have c1 := keep_cell g1 hG
                  have c2 := keep_cell g2 hG
                  have c3 := keep_cell g3 hG
                  have c4 := keep_cell g4 hG
                  have c5 := keep_cell g5 hG
                  refine wp_yields (v := gndV A cp g) ?_ ⟨_, rfl, rfl, Below.refl _ _, hG⟩
                  simp [slotOf] at h4
                  simp [execOp, go_sem, h4, c0, c1, c2, c3, c4, c5]
                · intro a W hG hR hO hp
                  have h1 := hO.slot 1 (by kernel_rfl)
                  refine wp_yields (v := .slice D days.length dp) ?_ ⟨_, rfl, rfl, Below.refl _ _, hG⟩
                  simp [slotOf] at h1
                  simp [execOp, go_sem, h1]
                · intro a W hG hR hO hp
                  have h2 := hO.slot 2 (by kernel_rfl)
                  refine wp_yields (v := .slice R l.length rp) ?_ ⟨_, rfl, rfl, Below.refl _ _, hG⟩
                  simp [slotOf] at h2
                  simp [execOp, go_sem, h2]
                · intro a W hG hR hO hp
                  have h12 := hO.slot 12 (by kernel_rfl)
                  refine wp_yields (v := vi (g.klo + ra)) ?_ ⟨_, rfl, rfl, Below.refl _ _, hG⟩
                  simp [slotOf] at h12
                  simp [execOp, go_sem, h12]
                · intro a W hG hR hO hp
                  have h183 : slotOf a 183 = gndV A cp g := hp.1
                  have h184 : slotOf a 184 = .slice D days.length dp := hp.2.1
                  have h185 : slotOf a 185 = .slice R l.length rp := hp.2.2.1
                  have h186 : slotOf a 186 = vi (g.klo + ra) := hp.2.2.2.1
                  refine wp_enters (f := 45) (args := #[gndV A cp g, .slice D days.length dp, .slice R l.length rp, vi (g.klo + ra)]) ?_ ((HAG.out (g.klo + ra) W (by omega) (by omega) (H8.out.lw.next hG)).mono ?_)
                  · simp [slotOf] at h183 h184 h185 h186
                    simp [go_sem, h183, h184, h185, h186]
                  · rintro e w' ⟨rfl, hb⟩
                    exact ⟨_, rfl, _, rfl, (by rw [HBB.out]; rfl), hb, below_next hG hb⟩
                · intro a W hG hR hO hp
                  have h12 := hO.slot 12 (by kernel_rfl)
                  refine wp_yields (v := vi (g.klo + ra)) ?_ ⟨_, rfl, rfl, Below.refl _ _, hG⟩
                  simp [slotOf] at h12
                  simp [execOp, go_sem, h12]
                · intro a W hG hR hO hp
                  have h9 := hO.slot 9 (by kernel_rfl)
                  refine wp_yields (v := .pointer (some ⟨w5.heap.size, 0, none⟩)) ?_ ⟨_, rfl, rfl, Below.refl _ _, hG⟩
                  simp [slotOf] at h9
                  simp [execOp, go_sem, h9]
                · intro a W hG hR hO hp
                  have h189 : slotOf a 189 = .pointer (some ⟨w5.heap.size, 0, none⟩) := hp.1
                  have c0 := keep_cell x0 hG
                  refine wp_yields (v := vi n) ?_ ⟨_, rfl, rfl, Below.refl _ _, hG⟩
                  simp [slotOf] at h189
                  simp [execOp, go_sem, h189, c0]
                · intro a W hG hR hO hp
                  have h9 := hO.slot 9 (by kernel_rfl)
                  refine wp_yields (v := .pointer (some ⟨w5.heap.size, 1, none⟩)) ?_ ⟨_, rfl, rfl, Below.refl _ _, hG⟩
                  simp [slotOf] at h9
                  simp [execOp, go_sem, h9]
                · intro a W hG hR hO hp
                  have h191 : slotOf a 191 = .pointer (some ⟨w5.heap.size, 1, none⟩) := hp.1
                  have c0 := keep_cell x1 hG
                  refine wp_yields (v := vi hi) ?_ ⟨_, rfl, rfl, Below.refl _ _, hG⟩
                  simp [slotOf] at h191
                  simp [execOp, go_sem, h191, c0]
                · intro a W hG hR hO hp
                  have h188 : slotOf a 188 = vi (g.klo + ra) := hp.1
                  have h190 : slotOf a 190 = vi n := hp.2.1
                  have h192 : slotOf a 192 = vi hi := hp.2.2.1
                  refine wp_enters (f := 27) (args := #[vi (g.klo + ra), vi n, vi hi]) ?_ ((in_any (g.klo + ra) n hi W).mono ?_)
                  · simp [slotOf] at h188 h190 h192
                    simp [go_sem, h188, h190, h192]
                  · rintro e w' ⟨rfl, rfl⟩
                    exact ⟨_, rfl, _, rfl, (by rw [HBB.out]; rfl), Below.refl _ _, hG⟩
                · intro a W hG hR hO hp
                  have h187 : slotOf a 187 = .bool bb := hp.1
                  have h193 : slotOf a 193 = .bool bb := hp.2.1
                  refine wp_yields (v := .bool true) ?_ ⟨_, rfl, rfl, Below.refl _ _, hG⟩
                  simp [slotOf] at h187 h193
                  simp [execOp, go_sem, h187, h193]
                · intro a W hG hR hO hp
                  have h194 : slotOf a 194 = .bool true := hp.1
                  refine wp_yields (v := .bool true) ?_ ⟨_, rfl, rfl, Below.refl _ _, hG⟩
                  simp [slotOf] at h194
                  simp [execOp, go_sem, h194]
                · intro a W hG hR hO hp
                  refine wp_enters (f := 17) (args := #[]) ?_ ((wakes_any W).mono ?_)
                  · skip
                    simp [go_sem]
                  · rintro e w' ⟨rfl, hb⟩
                    exact ⟨_, rfl, _, rfl, rfl, hb, below_next hG hb⟩
                · intro a W hG hR hO hp
                  have h195 : slotOf a 195 = .bool true := hp.1
                  have h196 : slotOf a 196 = .bool true := hp.2.1
                  refine wp_yields (v := .bool true) ?_ ⟨_, rfl, rfl, Below.refl _ _, hG⟩
                  simp [slotOf] at h195 h196
                  simp [execOp, go_sem, h195, h196]
              · intro W hG hR
                rintro _ rfl _ rfl _ rfl _ rfl _ rfl _ rfl _ rfl _ rfl _ rfl _ rfl _ rfl _ rfl _ rfl _ rfl _ rfl
                change wpList _ _ _ _ _ _
                simp only [Act.put, List.setIfInBounds_toArray, List.set_cons_zero, List.set_cons_succ, List.drop_succ_cons, List.drop_zero]
                have HF := Lib.hid (below_next H8.out.lw.below hG)
                clear hG hR H8 g0 g1 g2 g3 g4 g5 x0 x1
                go_wp2_with fail
                go_ret
                exact ⟨rfl, HF.out⟩
            · have g0 := (H8.out.lw.gb).at 0 (v := .slice A g.cells.length cp) rfl
              have g1 := (H8.out.lw.gb).at 1 (v := vi g.slo) rfl
              have g2 := (H8.out.lw.gb).at 2 (v := vi g.shi) rfl
              have g3 := (H8.out.lw.gb).at 3 (v := vi g.klo) rfl
              have g4 := (H8.out.lw.gb).at 4 (v := vi g.khi) rfl
              have g5 := (H8.out.lw.gb).at 5 (v := vi g.melt) rfl
              have x0 := H8.out.rb.at 0 rfl
              have x1 := H8.out.rb.at 1 rfl
              obtain ⟨bb, hbb⟩ : ∃ bb, bb = inB (g.klo + ra) n hi := ⟨_, rfl⟩
              have HBB := Lib.hid hbb
              clear hbb
              go_wp2_with fail
              refine wp_words (by kernel_rfl) (region_told_s 15 (by kernel_rfl) (by kernel_rfl) [false, false, false, false, false, false, false, false, false, false, false, false, false, false, false] (fun W => Below w10.heap.size w10 W) newer [vIs (gndV A cp g), vIs (.slice D days.length dp), vIs (.slice R l.length rp), vIs (vi (g.klo + ra)), vIs (.bool bb), vIs (vi (g.klo + ra)), vIs (.pointer (some ⟨w5.heap.size, 0, none⟩)), vIs (vi n), vIs (.pointer (some ⟨w5.heap.size, 1, none⟩)), vIs (vi hi), vIs (.bool bb), vIs (.bool true), vIs (.bool true), vIs (.bool true), vIs (.bool true)] ⟨rfl, rfl, rfl, rfl, rfl, rfl, rfl, rfl, rfl, rfl, rfl, rfl, rfl, (fun _ _ h => h), rfl, trivial⟩ ⟨(fun h => absurd h (by decide)), (fun h => absurd h (by decide)), (fun h => absurd h (by decide)), (fun h => absurd h (by decide)), (fun h => absurd h (by decide)), (fun h => absurd h (by decide)), (fun h => absurd h (by decide)), (fun h => absurd h (by decide)), (fun h => absurd h (by decide)), (fun h => absurd h (by decide)), (fun h => absurd h (by decide)), (fun h => absurd h (by decide)), (fun h => absurd h (by decide)), (fun h => absurd h (by decide)), (fun h => absurd h (by decide)), trivial⟩ (fun h k => newer_trans h k) (pickD_stable _ ⟨vIs_st, vIs_st, vIs_st, vIs_st, vIs_st, vIs_st, vIs_st, vIs_st, vIs_st, vIs_st, vIs_st, vIs_st, vIs_st, vIs_st, vIs_st, trivial⟩) (Below.refl _ w10).drew (Below.refl _ _) ?_ ?_)
              · refine ⟨.inr ?_, .inr ?_, .inr ?_, .inr ?_, .inr ?_, .inr ?_, .inr ?_, .inr ?_, .inr ?_, .inr ?_, .inr ?_, .inr ?_, .inr ?_, .inr ?_, .inr ?_, trivial⟩
                · intro a W hG hR hO hp
                  have h4 := hO.slot 4 (by kernel_rfl)
                  have c0 := keep_cell g0 hG
                  have c1 := keep_cell g1 hG
                  have c2 := keep_cell g2 hG
                  have c3 := keep_cell g3 hG
                  have c4 := keep_cell g4 hG
                  have c5 := keep_cell g5 hG
                  refine wp_yields (v := gndV A cp g) ?_ ⟨_, rfl, rfl, Below.refl _ _, hG⟩
                  simp [slotOf] at h4
                  simp [execOp, go_sem, h4, c0, c1, c2, c3, c4, c5]
                · intro a W hG hR hO hp
                  have h1 := hO.slot 1 (by kernel_rfl)
                  refine wp_yields (v := .slice D days.length dp) ?_ ⟨_, rfl, rfl, Below.refl _ _, hG⟩
                  simp [slotOf] at h1
                  simp [execOp, go_sem, h1]
                · intro a W hG hR hO hp
                  have h2 := hO.slot 2 (by kernel_rfl)
                  refine wp_yields (v := .slice R l.length rp) ?_ ⟨_, rfl, rfl, Below.refl _ _, hG⟩
                  simp [slotOf] at h2
                  simp [execOp, go_sem, h2]
                · intro a W hG hR hO hp
                  have h12 := hO.slot 12 (by kernel_rfl)
                  refine wp_yields (v := vi (g.klo + ra)) ?_ ⟨_, rfl, rfl, Below.refl _ _, hG⟩
                  simp [slotOf] at h12
                  simp [execOp, go_sem, h12]
                · intro a W hG hR hO hp
                  have h183 : slotOf a 183 = gndV A cp g := hp.1
                  have h184 : slotOf a 184 = .slice D days.length dp := hp.2.1
                  have h185 : slotOf a 185 = .slice R l.length rp := hp.2.2.1
                  have h186 : slotOf a 186 = vi (g.klo + ra) := hp.2.2.2.1
                  refine wp_enters (f := 45) (args := #[gndV A cp g, .slice D days.length dp, .slice R l.length rp, vi (g.klo + ra)]) ?_ ((HAG.out (g.klo + ra) W (by omega) (by omega) (H8.out.lw.next hG)).mono ?_)
                  · simp [slotOf] at h183 h184 h185 h186
                    simp [go_sem, h183, h184, h185, h186]
                  · rintro e w' ⟨rfl, hb⟩
                    exact ⟨_, rfl, _, rfl, (by rw [HBB.out]; rfl), hb, below_next hG hb⟩
                · intro a W hG hR hO hp
                  have h12 := hO.slot 12 (by kernel_rfl)
                  refine wp_yields (v := vi (g.klo + ra)) ?_ ⟨_, rfl, rfl, Below.refl _ _, hG⟩
                  simp [slotOf] at h12
                  simp [execOp, go_sem, h12]
                · intro a W hG hR hO hp
                  have h9 := hO.slot 9 (by kernel_rfl)
                  refine wp_yields (v := .pointer (some ⟨w5.heap.size, 0, none⟩)) ?_ ⟨_, rfl, rfl, Below.refl _ _, hG⟩
                  simp [slotOf] at h9
                  simp [execOp, go_sem, h9]
                · intro a W hG hR hO hp
                  have h189 : slotOf a 189 = .pointer (some ⟨w5.heap.size, 0, none⟩) := hp.1
                  have c0 := keep_cell x0 hG
                  refine wp_yields (v := vi n) ?_ ⟨_, rfl, rfl, Below.refl _ _, hG⟩
                  simp [slotOf] at h189
                  simp [execOp, go_sem, h189, c0]
                · intro a W hG hR hO hp
                  have h9 := hO.slot 9 (by kernel_rfl)
                  refine wp_yields (v := .pointer (some ⟨w5.heap.size, 1, none⟩)) ?_ ⟨_, rfl, rfl, Below.refl _ _, hG⟩
                  simp [slotOf] at h9
                  simp [execOp, go_sem, h9]
                · intro a W hG hR hO hp
                  have h191 : slotOf a 191 = .pointer (some ⟨w5.heap.size, 1, none⟩) := hp.1
                  have c0 := keep_cell x1 hG
                  refine wp_yields (v := vi hi) ?_ ⟨_, rfl, rfl, Below.refl _ _, hG⟩
                  simp [slotOf] at h191
                  simp [execOp, go_sem, h191, c0]
                · intro a W hG hR hO hp
                  have h188 : slotOf a 188 = vi (g.klo + ra) := hp.1
                  have h190 : slotOf a 190 = vi n := hp.2.1
                  have h192 : slotOf a 192 = vi hi := hp.2.2.1
                  refine wp_enters (f := 27) (args := #[vi (g.klo + ra), vi n, vi hi]) ?_ ((in_any (g.klo + ra) n hi W).mono ?_)
                  · simp [slotOf] at h188 h190 h192
                    simp [go_sem, h188, h190, h192]
                  · rintro e w' ⟨rfl, rfl⟩
                    exact ⟨_, rfl, _, rfl, (by rw [HBB.out]; rfl), Below.refl _ _, hG⟩
                · intro a W hG hR hO hp
                  have h187 : slotOf a 187 = .bool bb := hp.1
                  have h193 : slotOf a 193 = .bool bb := hp.2.1
                  refine wp_yields (v := .bool true) ?_ ⟨_, rfl, rfl, Below.refl _ _, hG⟩
                  simp [slotOf] at h187 h193
                  simp [execOp, go_sem, h187, h193]
                · intro a W hG hR hO hp
                  have h194 : slotOf a 194 = .bool true := hp.1
                  refine wp_yields (v := .bool true) ?_ ⟨_, rfl, rfl, Below.refl _ _, hG⟩
                  simp [slotOf] at h194
                  simp [execOp, go_sem, h194]
                · intro a W hG hR hO hp
                  refine wp_enters (f := 17) (args := #[]) ?_ ((wakes_any W).mono ?_)
                  · skip
                    simp [go_sem]
                  · rintro e w' ⟨rfl, hb⟩
                    exact ⟨_, rfl, _, rfl, rfl, hb, below_next hG hb⟩
                · intro a W hG hR hO hp
                  have h195 : slotOf a 195 = .bool true := hp.1
                  have h196 : slotOf a 196 = .bool true := hp.2.1
                  refine wp_yields (v := .bool true) ?_ ⟨_, rfl, rfl, Below.refl _ _, hG⟩
                  simp [slotOf] at h195 h196
                  simp [execOp, go_sem, h195, h196]
              · intro W hG hR
                rintro _ rfl _ rfl _ rfl _ rfl _ rfl _ rfl _ rfl _ rfl _ rfl _ rfl _ rfl _ rfl _ rfl _ rfl _ rfl
                change wpList _ _ _ _ _ _
                simp only [Act.put, List.setIfInBounds_toArray, List.set_cons_zero, List.set_cons_succ, List.drop_succ_cons, List.drop_zero]
                have HF := Lib.hid (below_next H8.out.lw.below hG)
                clear hG hR H8 g0 g1 g2 g3 g4 g5 x0 x1
                go_wp2_with fail
                go_ret
                exact ⟨rfl, HF.out⟩
      · have HLN := Lib.hid (learn_no g A2 c2 days A3 c3 l A4 c4 w4 (by omega) (by omega) (by omega) H4.out.2.1 H4.out.2.2.1 H4.out.2.2.2 er her he0)
        have heb : (er == 0) = false := by simpa using he0
        have hen : (er != 0) = true := by simpa using he0
        clear her
        go_wp2_with fail
        refine (HLN.out).mono ?_
        rintro e w5 ⟨rfl, hb5⟩
        have H5 := Lib.hid (Ln.mk ((H4.out.1.next hb5).alloc (.cells #[vi 0, vi 0] 36)) (Whole.made w5 36 #[vi 0, vi 0]))
        clear hb5 HLN H4
        have g0 := (H5.out.lw.gb).at 0 (v := .slice A g.cells.length cp) rfl
        have g1 := (H5.out.lw.gb).at 1 (v := vi g.slo) rfl
        have g2 := (H5.out.lw.gb).at 2 (v := vi g.shi) rfl
        have g3 := (H5.out.lw.gb).at 3 (v := vi g.klo) rfl
        have g4 := (H5.out.lw.gb).at 4 (v := vi g.khi) rfl
        have g5 := (H5.out.lw.gb).at 5 (v := vi g.melt) rfl
        go_wp2_with fail
        have HFT := Lib.hid (fault_any g cp A days dp D _ (by omega) (by omega) H5.out.lw.hc H5.out.lw.hd)
        by_cases hf : faultN g days = 0
        · rw [hf] at HFT
          have hlf : lnF g days l = er := by
            rw [HER.out]
            unfold lnErr lnF
            rw [if_pos hf]
          have HLF := Lib.hid hlf
          clear hf hlf
          refine (HFT.out).mono ?_
          rintro e w6 ⟨rfl, hb6⟩
          have H6 := Lib.hid (H5.out.next hb6)
          clear hb6 H5 HFT g0 g1 g2 g3 g4 g5
          have g0 := (H6.out.lw.gb).at 0 (v := .slice A g.cells.length cp) rfl
          have g1 := (H6.out.lw.gb).at 1 (v := vi g.slo) rfl
          have g2 := (H6.out.lw.gb).at 2 (v := vi g.shi) rfl
          have g3 := (H6.out.lw.gb).at 3 (v := vi g.klo) rfl
          have g4 := (H6.out.lw.gb).at 4 (v := vi g.khi) rfl
          have g5 := (H6.out.lw.gb).at 5 (v := vi g.melt) rfl
          go_wp2_with fail
          have HFL := Lib.hid (learnFault_any g A cp days D dp l R rp w6 (by omega) (by omega) (by omega) H6.out.lw.hc H6.out.lw.hd ((HR.out.below H6.out.lw.below).more H6.out.lw.below.size))
          rw [HLF.out] at HFL
          refine (HFL.out).mono ?_
          rintro e w7 ⟨rfl, hb7⟩
          have H7 := Lib.hid (H6.out.next hb7)
          clear hb7 H6 HFL g0 g1 g2 g3 g4 g5
          have x0 := H7.out.rb.at 0 rfl
          have x1 := H7.out.rb.at 1 rfl
          go_wp2_with fail
          refine (wakes_any _).mono ?_
          rintro e w8 ⟨rfl, hb8⟩
          have HF := Lib.hid (below_next H7.out.lw.below hb8)
          clear hb8 H7 x0 x1
          go_wp2_with fail
          go_ret
          exact ⟨rfl, HF.out⟩
        · have hfe : faultN g days = er := by
            rw [HER.out]
            unfold lnErr
            rw [if_neg hf]
          rw [hfe] at HFT
          clear hf hfe
          refine (HFT.out).mono ?_
          rintro e w7 ⟨rfl, hb6⟩
          have H7 := Lib.hid (H5.out.next hb6)
          clear hb6 H5 HFT g0 g1 g2 g3 g4 g5
          have x0 := H7.out.rb.at 0 rfl
          have x1 := H7.out.rb.at 1 rfl
          go_wp2_with fail
          refine (wakes_any _).mono ?_
          rintro e w8 ⟨rfl, hb8⟩
          have HF := Lib.hid (below_next H7.out.lw.below hb8)
          clear hb8 H7 x0 x1
          go_wp2_with fail
          go_ret
          exact ⟨rfl, HF.out⟩
end Go.Proofs.Yteonkhohloabfaa
