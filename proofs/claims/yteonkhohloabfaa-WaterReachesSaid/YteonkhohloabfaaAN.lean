/- The law WaterReaches returns true for every ground, all days, every cell and every level, and leaves what it was given as it was. -/
import Derived.Test.YteonkhohloabfaaAM
namespace Go.Proofs.Yteonkhohloabfaa
open Go.ChangeShapes Go.WideShapes Go.ChangeAt Go.RowKit Go.Deep

set_option maxRecDepth 100000 in
set_option maxHeartbeats 2000000 in
theorem waterReaches_walk (g : Gnd) (A : Option Addr) (cp : Nat) (days : List Day) (D : Option Addr) (dp : Nat) (cell level : Int) (w : World) (hc : Row cellL 7 w w.heap.size A g.cells) (hd : Row dayL 3 w w.heap.size D days) :
    Calls Try.prog 6 #[gndV A cp g, .slice D days.length dp, .int .i64 cell, .int .i64 level] w fun e w' => e = .returned (.bool true) ∧ Below w.heap.size w w' := by
  have HC := Lib.hid hc
  have HD := Lib.hid hd
  clear hc hd
  cases ht : thinB g.cells.length days.length
  · have HT := Lib.hid (thin_any g cp A days.length dp D (w.alloc (.cells (gndC A cp g) 26)))
    rw [ht] at HT
    clear ht
    go_enter Try.func6, Try.ntmps6
    go_wp2_with fail
    refine (HT.out).mono ?_
    rintro e w1 ⟨rfl, hb1⟩
    have hB := below_step ((Below.refl w.heap.size w).alloc (Nat.le_refl _) _) hb1 (by simp)
    clear hb1 HT
    go_wp2_with fail
    refine (wakes_any _).mono ?_
    rintro e w2 ⟨rfl, hb2⟩
    have HF := Lib.hid (below_next hB hb2)
    clear hb2 hB
    go_wp2_with fail
    go_ret
    exact ⟨rfl, HF.out⟩
  · have hsz : g.cells.length ≤ 10 ∧ days.length ≤ 35 := by simpa [thinB] using ht
    have HT := Lib.hid (thin_any g cp A days.length dp D (w.alloc (.cells (gndC A cp g) 26)))
    rw [ht] at HT
    clear ht
    obtain ⟨er, her⟩ : ∃ er, er = askedN g days cell level := ⟨_, rfl⟩
    have HER := Lib.hid her
    clear her
    go_enter Try.func6, Try.ntmps6
    go_wp2_with fail
    refine (HT.out).mono ?_
    rintro e w1 ⟨rfl, hb1⟩
    have hB1 := below_step ((Below.refl w.heap.size w).alloc (Nat.le_refl _) (.cells (gndC A cp g) 26)) hb1 (by simp)
    have hg1 := (Whole.made w 26 (gndC A cp g)).below hb1 (by simp)
    clear hb1 HT
    have g0 := hg1.at 0 (v := .slice A g.cells.length cp) rfl
    have g1 := hg1.at 1 (v := vi g.slo) rfl
    have g2 := hg1.at 2 (v := vi g.shi) rfl
    have g3 := hg1.at 3 (v := vi g.klo) rfl
    have g4 := hg1.at 4 (v := vi g.khi) rfl
    have g5 := hg1.at 5 (v := vi g.melt) rfl
    have HG := Lib.hid (lawGround g A cp w1 (by omega) ((HC.out.below hB1).more hB1.size))
    have H1 := Lib.hid (And.intro hB1 hg1)
    clear hB1 hg1
    go_wp2_with fail
    refine (HG.out).mono ?_
    rintro e w2 ⟨A2, cq, rfl, hr2, hb2⟩
    have HDy := Lib.hid (lawDays days D dp w2 (by omega) ((HD.out.below (below_next H1.out.1 hb2)).more (below_next H1.out.1 hb2).size))
    have H2 := Lib.hid (And.intro (below_next H1.out.1 hb2) (And.intro (H1.out.2.below hb2 H1.out.2.lt) hr2))
    clear g0 g1 g2 g3 g4 g5 hr2 hb2 HG H1
    go_wp2_with fail
    refine (HDy.out).mono ?_
    rintro e w3 ⟨A3, cr, rfl, hr3, hb3⟩
    have H3 := Lib.hid (And.intro (below_next H2.out.1 hb3) (And.intro (H2.out.2.1.below hb3 H2.out.2.1.lt) (And.intro ((H2.out.2.2.below hb3).more hb3.size) hr3)))
    clear hr3 hb3 H2 HDy
    have HAS : Hid (∀ W, Below w.heap.size w W → Calls Try.prog 25 #[gndV A cp g, .slice D days.length dp, .int .i64 cell, .int .i64 level] W fun e w' => e = .returned (.int .i64 er) ∧ Below W.heap.size W w') := by
      intro W hW
      rw [HER.out]
      exact lawAsked g A cp days D dp cell level W (by omega) (by omega) ((HC.out.below hW).more hW.size) ((HD.out.below hW).more hW.size)
    by_cases hf : er = 0
    · have hf0 : askedN g days cell level = 0 := by rw [← HER.out]; exact hf
      obtain ⟨hfa, z0, z1, l0, l1⟩ := asked_zero hf0
      obtain ⟨cn, hcn⟩ : ∃ cn : Nat, cell = cn := ⟨cell.toNat, by omega⟩
      subst hcn
      have hcn : cn < g.cells.length := by omega
      have HCN := Lib.hid hcn
      have HF := Lib.hid hfa
      have HL := Lib.hid (reach_ok g A2 cq days A3 cr cn level w3 (by omega) (by omega) H3.out.2.2.1 H3.out.2.2.2 hf0)
      obtain ⟨fa, hfa'⟩ : ∃ fa, fa = firstE true g days cn level := ⟨_, rfl⟩
      obtain ⟨fb, hfb'⟩ : ∃ fb, fb = firstE false g days cn level := ⟨_, rfl⟩
      have HFA := Lib.hid hfa'
      have HFB := Lib.hid hfb'
      rw [← hfa', ← hfb'] at HL
      subst hf
      clear hf0 hfa hcn z0 z1 hfa' hfb'
      go_wp2_with fail
      refine (HL.out).mono ?_
      rintro e w4 ⟨rfl, hb4⟩
      have hB4 := below_next H3.out.1 hb4
      have hg4 := H3.out.2.1.below hb4 H3.out.2.1.lt
      have g0 := hg4.at 0 (v := .slice A g.cells.length cp) rfl
      have g1 := hg4.at 1 (v := vi g.slo) rfl
      have g2 := hg4.at 2 (v := vi g.shi) rfl
      have g3 := hg4.at 3 (v := vi g.klo) rfl
      have g4 := hg4.at 4 (v := vi g.khi) rfl
      have g5 := hg4.at 5 (v := vi g.melt) rfl
      have H4 := Lib.hid (And.intro hB4 hg4)
      clear hB4 hg4 hb4 HL H3
      go_wp2_with fail
      refine (HAS.out _ H4.out.1).mono ?_
      rintro e wv ⟨rfl, hb5⟩
      have hB5 := below_next H4.out.1 hb5
      have hg5 := H4.out.2.below hb5 H4.out.2.lt
      clear g0 g1 g2 g3 g4 g5
      have g0 := hg5.at 0 (v := .slice A g.cells.length cp) rfl
      have g1 := hg5.at 1 (v := vi g.slo) rfl
      have g2 := hg5.at 2 (v := vi g.shi) rfl
      have g3 := hg5.at 3 (v := vi g.klo) rfl
      have g4 := hg5.at 4 (v := vi g.khi) rfl
      have g5 := hg5.at 5 (v := vi g.melt) rfl
      have HR := Lib.hid (And.intro ((HC.out.below hB5).more hB5.size) ((HD.out.below hB5).more hB5.size))
      have HB := Lib.hid hB5
      clear hB5 hg5 hb5 H4
      go_wp2_with fail
      refine wp_words (by kernel_rfl) (region_told_g 29 (by kernel_rfl) (by kernel_rfl) (fun W => Below wv.heap.size wv W) newer (pickD [vIs (.int .i64 0), vIs (.bool true), vIs (.bool true), vIs (.int .i64 fa), vIs (gndV A cp g), vIs (.slice D days.length dp), vIs (gndV A cp g), vIs (.slice D days.length dp), vTruth wv.heap.size true g days, vIs (.int .i64 cn), vIs (.int .i64 level), vIs (.int .i64 fa), vIs (.bool true), vIs (.bool true), vIs (.bool true), vIs (.int .i64 fb), vIs (gndV A cp g), vIs (.slice D days.length dp), vIs (gndV A cp g), vIs (.slice D days.length dp), vTruth wv.heap.size false g days, vIs (.int .i64 cn), vIs (.int .i64 level), vIs (.int .i64 fb), vIs (.bool true), vIs (.bool true), vIs (.bool true), vIs (.bool true), vIs (.bool true)]) ⟨trivial, trivial, trivial, (fun _ _ h => h), (fun _ _ h => h), (fun _ _ h => h), (fun _ _ h => h), (fun _ _ h => h), (fun _ _ h => h), (fun _ _ h => h), (fun _ _ h => h), (fun _ _ h => h), (fun _ _ h => h), trivial, trivial, (fun _ _ h => h), (fun _ _ h => h), (fun _ _ h => h), (fun _ _ h => h), (fun _ _ h => h), (fun _ _ h => h), (fun _ _ h => h), (fun _ _ h => h), (fun _ _ h => h), (fun _ _ h => h), trivial, trivial, (fun _ _ h => h), trivial, trivial⟩ (fun h k => newer_trans h k) (pickD_stable _ ⟨vIs_st, vIs_st, vIs_st, vIs_st, vIs_st, vIs_st, vIs_st, vIs_st, vTruth_st, vIs_st, vIs_st, vIs_st, vIs_st, vIs_st, vIs_st, vIs_st, vIs_st, vIs_st, vIs_st, vIs_st, vTruth_st, vIs_st, vIs_st, vIs_st, vIs_st, vIs_st, vIs_st, vIs_st, vIs_st, trivial⟩) (Below.refl _ wv).drew (Below.refl _ _) ?_ ?_)
      · refine ⟨?_, ?_, ?_, ?_, ?_, ?_, ?_, ?_, ?_, ?_, ?_, ?_, ?_, ?_, ?_, ?_, ?_, ?_, ?_, ?_, ?_, ?_, ?_, ?_, ?_, ?_, ?_, ?_, ?_, trivial⟩
        · intro a W hG hR hO hp
          have h11 := hO.slot 11 (by kernel_rfl)
          refine wp_yields (v := .int .i64 0) ?_ ⟨_, rfl, rfl, Below.refl _ _, hG⟩
          simp [slotOf] at h11
          simp [execOp, go_sem, h11]
        · intro a W hG hR hO hp
          have h50 : slotOf a 50 = .int .i64 0 := hp.1
          refine wp_yields (v := .bool true) ?_ ⟨_, rfl, rfl, Below.refl _ _, hG⟩
          simp [slotOf] at h50
          simp [execOp, go_sem, h50]
        · intro a W hG hR hO hp
          have h51 : slotOf a 51 = .bool true := hp.1
          refine wp_yields (v := .bool true) ?_ ⟨_, rfl, rfl, Below.refl _ _, hG⟩
          simp [slotOf] at h51
          simp [execOp, go_sem, h51]
        · intro a W hG hR hO hp
          have h9 := hO.slot 9 (by kernel_rfl)
          refine wp_yields (v := .int .i64 fa) ?_ ⟨_, rfl, rfl, Below.refl _ _, hG⟩
          simp [slotOf] at h9
          simp [execOp, go_sem, h9]
        · intro a W hG hR hO hp
          have h4 := hO.slot 4 (by kernel_rfl)
          have c0 := keep_cell g0 hG
          have c1 := keep_cell g1 hG
          have c2 := keep_cell g2 hG
          have c3 := keep_cell g3 hG
          have c4 := keep_cell g4 hG
          have c5 := keep_cell g5 hG
          refine wp_yields (v := gndV A cp g) ?_ ⟨_, rfl, rfl, Below.refl _ _, hG⟩
          simp [slotOf] at h4
          simp [execOp, go_sem, h4, c0, c1, c2, c3, c4, c5]
        · intro a W hG hR hO hp
          have h1 := hO.slot 1 (by kernel_rfl)
          refine wp_yields (v := .slice D days.length dp) ?_ ⟨_, rfl, rfl, Below.refl _ _, hG⟩
          simp [slotOf] at h1
          simp [execOp, go_sem, h1]
        · intro a W hG hR hO hp
          have h4 := hO.slot 4 (by kernel_rfl)
          have c0 := keep_cell g0 hG
          have c1 := keep_cell g1 hG
          have c2 := keep_cell g2 hG
          have c3 := keep_cell g3 hG
          have c4 := keep_cell g4 hG
          have c5 := keep_cell g5 hG
          refine wp_yields (v := gndV A cp g) ?_ ⟨_, rfl, rfl, Below.refl _ _, hG⟩
          simp [slotOf] at h4
          simp [execOp, go_sem, h4, c0, c1, c2, c3, c4, c5]
        · intro a W hG hR hO hp
          have h1 := hO.slot 1 (by kernel_rfl)
          refine wp_yields (v := .slice D days.length dp) ?_ ⟨_, rfl, rfl, Below.refl _ _, hG⟩
          simp [slotOf] at h1
          simp [execOp, go_sem, h1]
        · intro a W hG hR hO hp
          have h56 : slotOf a 56 = gndV A cp g := hp.1
          have h57 : slotOf a 57 = .slice D days.length dp := hp.2.1
          refine wp_enters (f := 23) (args := #[gndV A cp g, .slice D days.length dp, .bool true]) ?_ ((refEnds true g A cp days D dp W (by omega) (by omega) ((HR.out.1.below hG).more hG.size) ((HR.out.2.below hG).more hG.size)).mono ?_)
          · simp [slotOf] at h56 h57
            simp [go_sem, h56, h57]
          · rintro e w' ⟨L, lp, R, rp, rfl, h2, h3, hb, h4, h5⟩
            exact ⟨_, rfl, _, rfl, ⟨L, lp, R, rp, rfl, h2, h3, fun a e => Nat.le_trans hG.size (h4 a e), fun a e => Nat.le_trans hG.size (h5 a e)⟩, hb, below_next hG hb⟩
        · intro a W hG hR hO hp
          have h2 := hO.slot 2 (by kernel_rfl)
          refine wp_yields (v := .int .i64 cn) ?_ ⟨_, rfl, rfl, Below.refl _ _, hG⟩
          simp [slotOf] at h2
          simp [execOp, go_sem, h2]
        · intro a W hG hR hO hp
          have h3 := hO.slot 3 (by kernel_rfl)
          refine wp_yields (v := .int .i64 level) ?_ ⟨_, rfl, rfl, Below.refl _ _, hG⟩
          simp [slotOf] at h3
          simp [execOp, go_sem, h3]
        · intro a W hG hR hO hp
          have h54 : slotOf a 54 = gndV A cp g := hp.1
          have h55 : slotOf a 55 = .slice D days.length dp := hp.2.1
          have h58 := hp.2.2.1
          have h59 : slotOf a 59 = .int .i64 cn := hp.2.2.2.1
          have h60 : slotOf a 60 = .int .i64 level := hp.2.2.2.2.1
          obtain ⟨L, lp, R, rp, h58, h2, h3, _, _⟩ := h58
          have hfs := refFirstE true g A cp days D dp L lp R rp cn level HF.out HCN.out W ((HR.out.1.below hG).more hG.size) ((HR.out.2.below hG).more hG.size) h2 h3
          rw [← HFA.out] at hfs
          refine wp_enters (f := 30) (args := #[gndV A cp g, .slice D days.length dp, truthV (endOf true g.slo g.shi) (endOf true g.klo g.khi) L g.cells.length lp R days.length rp, .int .i64 cn, .int .i64 level]) ?_ (hfs.mono ?_)
          · simp [slotOf] at h54 h55 h58 h59 h60
            simp [go_sem, h54, h55, h58, h59, h60]
          · rintro e w' ⟨rfl, hb⟩
            exact ⟨_, rfl, _, rfl, rfl, hb, below_next hG hb⟩
        · intro a W hG hR hO hp
          have h53 : slotOf a 53 = .int .i64 fa := hp.1
          have h61 : slotOf a 61 = .int .i64 fa := hp.2.1
          refine wp_yields (v := .bool true) ?_ ⟨_, rfl, rfl, Below.refl _ _, hG⟩
          simp [slotOf] at h53 h61
          simp [execOp, go_sem, h53, h61]
        · intro a W hG hR hO hp
          have h52 : slotOf a 52 = .bool true := hp.1
          have h62 : slotOf a 62 = .bool true := hp.2.1
          refine wp_yields (v := .bool true) ?_ ⟨_, rfl, rfl, Below.refl _ _, hG⟩
          simp [slotOf] at h52 h62
          simp [execOp, go_sem, h52, h62]
        · intro a W hG hR hO hp
          have h63 : slotOf a 63 = .bool true := hp.1
          refine wp_yields (v := .bool true) ?_ ⟨_, rfl, rfl, Below.refl _ _, hG⟩
          simp [slotOf] at h63
          simp [execOp, go_sem, h63]
        · intro a W hG hR hO hp
          have h10 := hO.slot 10 (by kernel_rfl)
          refine wp_yields (v := .int .i64 fb) ?_ ⟨_, rfl, rfl, Below.refl _ _, hG⟩
          simp [slotOf] at h10
          simp [execOp, go_sem, h10]
        · intro a W hG hR hO hp
          have h4 := hO.slot 4 (by kernel_rfl)
          have c0 := keep_cell g0 hG
          have c1 := keep_cell g1 hG
          have c2 := keep_cell g2 hG
          have c3 := keep_cell g3 hG
          have c4 := keep_cell g4 hG
          have c5 := keep_cell g5 hG
          refine wp_yields (v := gndV A cp g) ?_ ⟨_, rfl, rfl, Below.refl _ _, hG⟩
          simp [slotOf] at h4
          simp [execOp, go_sem, h4, c0, c1, c2, c3, c4, c5]
        · intro a W hG hR hO hp
          have h1 := hO.slot 1 (by kernel_rfl)
          refine wp_yields (v := .slice D days.length dp) ?_ ⟨_, rfl, rfl, Below.refl _ _, hG⟩
          simp [slotOf] at h1
          simp [execOp, go_sem, h1]
        · intro a W hG hR hO hp
          have h4 := hO.slot 4 (by kernel_rfl)
          have c0 := keep_cell g0 hG
          have c1 := keep_cell g1 hG
          have c2 := keep_cell g2 hG
          have c3 := keep_cell g3 hG
          have c4 := keep_cell g4 hG
          have c5 := keep_cell g5 hG
          refine wp_yields (v := gndV A cp g) ?_ ⟨_, rfl, rfl, Below.refl _ _, hG⟩
          simp [slotOf] at h4
          simp [execOp, go_sem, h4, c0, c1, c2, c3, c4, c5]
        · intro a W hG hR hO hp
          have h1 := hO.slot 1 (by kernel_rfl)
          refine wp_yields (v := .slice D days.length dp) ?_ ⟨_, rfl, rfl, Below.refl _ _, hG⟩
          simp [slotOf] at h1
          simp [execOp, go_sem, h1]
        · intro a W hG hR hO hp
          have h68 : slotOf a 68 = gndV A cp g := hp.1
          have h69 : slotOf a 69 = .slice D days.length dp := hp.2.1
          refine wp_enters (f := 23) (args := #[gndV A cp g, .slice D days.length dp, .bool false]) ?_ ((refEnds false g A cp days D dp W (by omega) (by omega) ((HR.out.1.below hG).more hG.size) ((HR.out.2.below hG).more hG.size)).mono ?_)
          · simp [slotOf] at h68 h69
            simp [go_sem, h68, h69]
          · rintro e w' ⟨L, lp, R, rp, rfl, h2, h3, hb, h4, h5⟩
            exact ⟨_, rfl, _, rfl, ⟨L, lp, R, rp, rfl, h2, h3, fun a e => Nat.le_trans hG.size (h4 a e), fun a e => Nat.le_trans hG.size (h5 a e)⟩, hb, below_next hG hb⟩
        · intro a W hG hR hO hp
          have h2 := hO.slot 2 (by kernel_rfl)
          refine wp_yields (v := .int .i64 cn) ?_ ⟨_, rfl, rfl, Below.refl _ _, hG⟩
          simp [slotOf] at h2
          simp [execOp, go_sem, h2]
        · intro a W hG hR hO hp
          have h3 := hO.slot 3 (by kernel_rfl)
          refine wp_yields (v := .int .i64 level) ?_ ⟨_, rfl, rfl, Below.refl _ _, hG⟩
          simp [slotOf] at h3
          simp [execOp, go_sem, h3]
        · intro a W hG hR hO hp
          have h66 : slotOf a 66 = gndV A cp g := hp.1
          have h67 : slotOf a 67 = .slice D days.length dp := hp.2.1
          have h70 := hp.2.2.1
          have h71 : slotOf a 71 = .int .i64 cn := hp.2.2.2.1
          have h72 : slotOf a 72 = .int .i64 level := hp.2.2.2.2.1
          obtain ⟨L, lp, R, rp, h70, h2, h3, _, _⟩ := h70
          have hfs := refFirstE false g A cp days D dp L lp R rp cn level HF.out HCN.out W ((HR.out.1.below hG).more hG.size) ((HR.out.2.below hG).more hG.size) h2 h3
          rw [← HFB.out] at hfs
          refine wp_enters (f := 30) (args := #[gndV A cp g, .slice D days.length dp, truthV (endOf false g.slo g.shi) (endOf false g.klo g.khi) L g.cells.length lp R days.length rp, .int .i64 cn, .int .i64 level]) ?_ (hfs.mono ?_)
          · simp [slotOf] at h66 h67 h70 h71 h72
            simp [go_sem, h66, h67, h70, h71, h72]
          · rintro e w' ⟨rfl, hb⟩
            exact ⟨_, rfl, _, rfl, rfl, hb, below_next hG hb⟩
        · intro a W hG hR hO hp
          have h65 : slotOf a 65 = .int .i64 fb := hp.1
          have h73 : slotOf a 73 = .int .i64 fb := hp.2.1
          refine wp_yields (v := .bool true) ?_ ⟨_, rfl, rfl, Below.refl _ _, hG⟩
          simp [slotOf] at h65 h73
          simp [execOp, go_sem, h65, h73]
        · intro a W hG hR hO hp
          have h64 : slotOf a 64 = .bool true := hp.1
          have h74 : slotOf a 74 = .bool true := hp.2.1
          refine wp_yields (v := .bool true) ?_ ⟨_, rfl, rfl, Below.refl _ _, hG⟩
          simp [slotOf] at h64 h74
          simp [execOp, go_sem, h64, h74]
        · intro a W hG hR hO hp
          have h75 : slotOf a 75 = .bool true := hp.1
          refine wp_yields (v := .bool true) ?_ ⟨_, rfl, rfl, Below.refl _ _, hG⟩
          simp [slotOf] at h75
          simp [execOp, go_sem, h75]
        · intro a W hG hR hO hp
          refine wp_enters (f := 17) (args := #[]) ?_ ((wakes_any W).mono ?_)
          · skip
            simp [go_sem]
          · rintro e w' ⟨rfl, hb⟩
            exact ⟨_, rfl, _, rfl, rfl, hb, below_next hG hb⟩
        · intro a W hG hR hO hp
          have h76 : slotOf a 76 = .bool true := hp.1
          have h77 : slotOf a 77 = .bool true := hp.2.1
          refine wp_yields (v := .bool true) ?_ ⟨_, rfl, rfl, Below.refl _ _, hG⟩
          simp [slotOf] at h76 h77
          simp [execOp, go_sem, h76, h77]
      · intro W hG hR
        rintro _ rfl _ rfl _ rfl _ rfl _ rfl _ rfl _ rfl _ rfl _ ⟨_, _, _, _, rfl, _, _, _, _⟩ _ rfl _ rfl _ rfl _ rfl _ rfl _ rfl _ rfl _ rfl _ rfl _ rfl _ rfl _ ⟨_, _, _, _, rfl, _, _, _, _⟩ _ rfl _ rfl _ rfl _ rfl _ rfl _ rfl _ rfl _ rfl
        change wpList _ _ _ _ _ _
        simp only [Act.put, List.setIfInBounds_toArray, List.set_cons_zero, List.set_cons_succ, List.drop_succ_cons, List.drop_zero]
        have HX := Lib.hid (below_next HB.out hG)
        clear hG hR HR g0 g1 g2 g3 g4 g5
        go_wp2_with fail
        go_ret
        exact ⟨rfl, HX.out⟩
    · have HL := Lib.hid (reach_no g A2 cq days A3 cr cell level w3 (by omega) (by omega) H3.out.2.2.1 H3.out.2.2.2 er HER.out hf)
      have hfb : (er == 0) = false := by simpa using hf
      have hfn : (er != 0) = true := by simpa using hf
      clear hf
      go_wp2_with fail
      refine (HL.out).mono ?_
      rintro e w4 ⟨rfl, hb4⟩
      have hB4 := below_next H3.out.1 hb4
      have hg4 := H3.out.2.1.below hb4 H3.out.2.1.lt
      have g0 := hg4.at 0 (v := .slice A g.cells.length cp) rfl
      have g1 := hg4.at 1 (v := vi g.slo) rfl
      have g2 := hg4.at 2 (v := vi g.shi) rfl
      have g3 := hg4.at 3 (v := vi g.klo) rfl
      have g4 := hg4.at 4 (v := vi g.khi) rfl
      have g5 := hg4.at 5 (v := vi g.melt) rfl
      have HB4 := Lib.hid hB4
      clear hB4 hb4 hg4 HL H3
      go_wp2_with fail
      refine (HAS.out _ HB4.out).mono ?_
      rintro e w5 ⟨rfl, hb5⟩
      have HB5 := Lib.hid (below_next HB4.out hb5)
      clear hb5 HB4 g0 g1 g2 g3 g4 g5
      go_wp2_with fail
      refine (wakes_any _).mono ?_
      rintro e w6 ⟨rfl, hb6⟩
      have HX := Lib.hid (below_next HB5.out hb6)
      clear hb6
      go_wp2_with fail
      go_ret
      exact ⟨rfl, HX.out⟩

set_option maxRecDepth 100000 in
theorem waterReaches_lifted (os : Os) (started : os.Started) (H : Type) (enc : TypeId × Value → H) :
    ReturnsInHanded {} Try.checked os 6 .any (Rows.waterReachesSpec.pre6 enc Try.prog Try.f6 Rows.waterReachesRow.domain false) (Rows.waterReachesSpec.post enc Try.prog Try.f6 false true false false) := by
  refine returnsInHanded_of_change (C := Try.checked) Try.own started (by kernel_rfl) Try.func6
    (ChangeSpec.witness6 (enc := enc) (C := Try.checked) false ⟨#[], #[.agg #[.slice none 0 0, .int .i64 0, .int .i64 0, .int .i64 0, .int .i64 0, .int .i64 0], .slice none 0 0, .int .i64 0, .int .i64 0], []⟩ 8 (by kernel_rfl) (by kernel_rfl) (by kernel_rfl) (by kernel_rfl)) ?_
  intro W base args ds gs before hval0 hW hcnd _
  have hval : ∀ (j : Nat) t v, Try.f6.params[j]? = some t → args[j]? = some v → Value.okWide Try.prog W .any base t v := hval0
  have hW' := hW
  obtain ⟨p, q, hA0, hV, rfl, hfz, hnd⟩ := hW
  have hA : DataW.TrodAll enc Try.prog W 0 (fun _ => true) true Try.f6.params.toList args.toList ds p := hA0
  rw [Try.params6] at hA hval
  obtain ⟨v0, vs0, d0, ds0, p0, q0, hargs, rfl, rfl, h0, r0⟩ := trodAll_cons hA
  obtain ⟨v1, vs1, d1, ds1, p1, q1, rfl, rfl, rfl, h1, r1⟩ := trodAll_cons r0
  obtain ⟨v2, vs2, d2, ds2, p2, q2, rfl, rfl, rfl, h2, r2⟩ := trodAll_cons r1
  obtain ⟨v3, vs3, d3, ds3, p3, q3, rfl, rfl, rfl, h3, r3⟩ := trodAll_cons r2
  obtain ⟨rfl, rfl, rfl⟩ := trodAll_nil r3
  obtain rfl : args = #[v0, v1, v2, v3] := by cases args; simp_all
  obtain ⟨rfl, rfl⟩ := trodVars_none hV
  obtain ⟨c0, rfl, hs0⟩ := okWide_struct Try.underlying26 (hval 0 26 v0 rfl rfl)
  have k0 := h0
  have lt0 : ∀ x ∈ p0, x.block < W.heap.size := by obtain ⟨m, hm⟩ := k0; exact DataW.trod_lt m _ _ _ hm
  obtain ⟨g0, A0, cp0, e0, hl0, hrow0⟩ : ∃ (g : Gnd) (A : Option Addr) (cp : Nat), c0.toList = [.slice A g.cells.length cp, vi g.slo, vi g.shi, vi g.klo, vi g.khi, vi g.melt] ∧ g.cells.length ≤ maxLen ∧ Row cellL 7 W W.heap.size A g.cells := by
    obtain ⟨fuel, hf⟩ := h0
    exact ground_open hf
  obtain rfl : c0 = gndC A0 cp0 g0 := by cases c0; simp_all
  obtain ⟨a1, len1, cap1, rfl⟩ := okWide_slice Try.underlying27 (hval 1 27 v1 rfl rfl)
  have k1 := h1
  have lt1 : ∀ x ∈ p1, x.block < W.heap.size := by obtain ⟨m, hm⟩ := k1; exact DataW.trod_lt m _ _ _ hm
  obtain ⟨D1, l1, dp1, e1, hl1, hrow1⟩ : ∃ (D : Option Addr) (l : List Day) (dp : Nat), (Value.slice a1 len1 cap1).cells.toList = [.slice D l.length dp] ∧ l.length ≤ maxLen ∧ Row dayL 3 W W.heap.size D l := by
    obtain ⟨fuel, hf⟩ := h1
    exact days_open hf
  simp [Value.cells] at e1
  obtain ⟨rfl, rfl, rfl⟩ := e1
  obtain ⟨a2, rfl, rfl, rfl, w2⟩ := open_int Try.underlying3 (hval 2 3 v2 rfl rfl) h2
  obtain ⟨a3, rfl, rfl, rfl, w3⟩ := open_int Try.underlying3 (hval 3 3 v3 rfl rfl) h3
  clear hA0 hval0
  refine (waterReaches_walk g0 A0 cp0 l1 a1 cap1 a2 a3 W hrow0 hrow1).mono fun e W' ⟨he, bel⟩ => ?_
  subst he
  exact ⟨_, rfl, _, _, _, [], _, [], hW', trodAll_mk1 (shut_bool Try.underlying4 _), (trodAll_cons_mk (Below.trod Try.laidOut (by kernel_rfl) (of_decide_eq_true (by kernel_rfl)) k0 bel lt0) (trodAll_cons_mk (Below.trod Try.laidOut (by kernel_rfl) (of_decide_eq_true (by kernel_rfl)) k1 bel lt1) (trodAll_cons_mk (shut_int Try.underlying3 w2) (trodAll_cons_mk (shut_int Try.underlying3 w3) trodAll_mk0)))), rfl, bel.frame _, fun h => by cases h⟩

theorem waterReaches_holds : Rows.WaterReachesSaid :=
  OpenClaim.holds_of_wide 6 Try.f6 rfl rfl rfl rfl rfl rfl rfl ⟨rfl, rfl, rfl, rfl, rfl⟩ rfl rfl rfl rfl rfl (by kernel_rfl) Try.func6 (by kernel_rfl)
    (of_decide_eq_true (by kernel_rfl)) (by unfold Func.isWrapper; first | (rw [if_pos (by decide +kernel)]; kernel_rfl) | (rw [if_neg (by decide +kernel)]; exact ⟨rfl, rfl⟩))
    (fun os started H enc _ => waterReaches_lifted os started H enc)
#print axioms waterReaches_holds
end Go.Proofs.Yteonkhohloabfaa
