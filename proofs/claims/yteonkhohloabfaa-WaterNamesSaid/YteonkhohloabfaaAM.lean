/- Reach: on which days a cell reaches a level, perhaps and surely. -/
import Derived.Test.YteonkhohloabfaaL4
import Derived.Test.YteonkhohloabfaaAK
namespace Go.Proofs.Yteonkhohloabfaa
open Go.RowKit

set_option maxRecDepth 100000 in
set_option maxHeartbeats 1000000 in
theorem reach_no (g : Gnd) (A : Option Addr) (ap : Nat) (days : List Day) (D : Option Addr) (dp : Nat) (cell level : Int) (w : World) (hn : g.cells.length ≤ 1000) (hm : days.length ≤ 1000) (hc : Row cellL 7 w w.heap.size A g.cells) (hd : Row dayL 3 w w.heap.size D days) (er : Int) (he : er = askedN g days cell level) (hf : er ≠ 0) :
    Calls Try.prog 29 #[gndV A ap g, .slice D days.length dp, .int .i64 cell, .int .i64 level] w fun e w' => e = .returned (.tuple #[.int .i64 0, .int .i64 0, .int .i64 er]) ∧ Below w.heap.size w w' := by
  have hck := asked_any g A ap days D dp cell level _ hn hm (row_alloc hc (.cells (gndC A ap g) 38)) (row_alloc hd _)
  rw [← he] at hck
  have HK := Lib.hid hck
  have hfb : (er != 0) = true := by simpa using hf
  clear hck hf hc hd he
  go_enter Try.func29, Try.ntmps29
  go_wp2_with (go_at_call 59; refine (HK.out).mono ?_; rintro e w1 ⟨rfl, hb⟩; have hB := below_step ((Below.refl w.heap.size w).alloc (Nat.le_refl _) _) hb (by simp))
  go_ret3
  exact ⟨rfl, hB⟩

set_option maxRecDepth 100000 in
set_option maxHeartbeats 2000000 in
theorem reach_ok (g : Gnd) (A : Option Addr) (ap : Nat) (days : List Day) (D : Option Addr) (dp : Nat) (cell : Nat) (level : Int) (w : World) (hn : g.cells.length ≤ 1000) (hm : days.length ≤ 1000) (hc : Row cellL 7 w w.heap.size A g.cells) (hd : Row dayL 3 w w.heap.size D days) (hf : askedN g days cell level = 0) :
    Calls Try.prog 29 #[gndV A ap g, .slice D days.length dp, .int .i64 cell, .int .i64 level] w fun e w' => e = .returned (.tuple #[.int .i64 (firstE true g days cell level), .int .i64 (firstE false g days cell level), .int .i64 0]) ∧ Below w.heap.size w w' := by
  have hck := asked_any g A ap days D dp cell level _ hn hm (row_alloc hc (.cells (gndC A ap g) 38)) (row_alloc hd _)
  rw [hf] at hck
  have HK := Lib.hid hck
  obtain ⟨hfa, _, hcl, _, _⟩ := asked_zero hf
  have hcl' : cell < g.cells.length := by omega
  have HF := Lib.hid hfa
  have HCL := Lib.hid hcl'
  have h8 := (fault_cells hfa).2
  have HC := Lib.hid hc
  have HD := Lib.hid hd
  clear hck hf hc hd hfa hcl hcl'
  obtain ⟨fa, hfa⟩ : ∃ fa, fa = firstE true g days cell level := ⟨_, rfl⟩
  obtain ⟨fb, hfb⟩ : ∃ fb, fb = firstE false g days cell level := ⟨_, rfl⟩
  have HFA := Lib.hid hfa
  have HFB := Lib.hid hfb
  rw [← hfa, ← hfb]
  clear hfa hfb
  go_enter Try.func29, Try.ntmps29
  go_wp2_with fail
  refine (HK.out).mono ?_
  rintro e wv ⟨rfl, hb⟩
  have hB := below_step ((Below.refl w.heap.size w).alloc (Nat.le_refl _) (.cells (gndC A ap g) 38)) hb (by simp)
  have hg := (Whole.made w 38 (gndC A ap g)).below hb (by simp)
  have g0 := hg.at 0 (v := .slice A g.cells.length ap) rfl
  have g1 := hg.at 1 (v := vi g.slo) rfl
  have g2 := hg.at 2 (v := vi g.shi) rfl
  have g3 := hg.at 3 (v := vi g.klo) rfl
  have g4 := hg.at 4 (v := vi g.khi) rfl
  have g5 := hg.at 5 (v := vi g.melt) rfl
  have HR := Lib.hid (And.intro ((HC.out.below hB).more hB.size) ((HD.out.below hB).more hB.size))
  have HB := Lib.hid hB
  clear hg hB hb HK HC HD
  go_wp2_with fail
  have hst : ∀ i v W W', pickD [vIs (gndV A ap g), vIs (.slice D days.length dp), vIs (choiceV true), vIs (gndV A ap g), vIs (.slice D days.length dp), vTruth wv.heap.size true g days, vWay wv.heap.size g A ap days D dp true, vIs (.int .i64 cell), vIs (.int .i64 level), vIs (.int .i64 fa), vIs (gndV A ap g), vIs (.slice D days.length dp), vIs (choiceV false), vIs (gndV A ap g), vIs (.slice D days.length dp), vTruth wv.heap.size false g days, vWay wv.heap.size g A ap days D dp false, vIs (.int .i64 cell), vIs (.int .i64 level), vIs (.int .i64 fb)] i v W → newer W W' → pickD [vIs (gndV A ap g), vIs (.slice D days.length dp), vIs (choiceV true), vIs (gndV A ap g), vIs (.slice D days.length dp), vTruth wv.heap.size true g days, vWay wv.heap.size g A ap days D dp true, vIs (.int .i64 cell), vIs (.int .i64 level), vIs (.int .i64 fa), vIs (gndV A ap g), vIs (.slice D days.length dp), vIs (choiceV false), vIs (gndV A ap g), vIs (.slice D days.length dp), vTruth wv.heap.size false g days, vWay wv.heap.size g A ap days D dp false, vIs (.int .i64 cell), vIs (.int .i64 level), vIs (.int .i64 fb)] i v W' := pickD_stable _ ⟨vIs_st, vIs_st, vIs_st, vIs_st, vIs_st, vTruth_st, vWay_st, vIs_st, vIs_st, vIs_st, vIs_st, vIs_st, vIs_st, vIs_st, vIs_st, vTruth_st, vWay_st, vIs_st, vIs_st, vIs_st, trivial⟩
  have hpm : permOk (fun _ _ => True) [none, none, none, none, none, some 6, some 9, none, none, none, none, none, none, none, none, some 16, some 19, none, none, none] [vIs (gndV A ap g), vIs (.slice D days.length dp), vIs (choiceV true), vIs (gndV A ap g), vIs (.slice D days.length dp), vTruth wv.heap.size true g days, vWay wv.heap.size g A ap days D dp true, vIs (.int .i64 cell), vIs (.int .i64 level), vIs (.int .i64 fa), vIs (gndV A ap g), vIs (.slice D days.length dp), vIs (choiceV false), vIs (gndV A ap g), vIs (.slice D days.length dp), vTruth wv.heap.size false g days, vWay wv.heap.size g A ap days D dp false, vIs (.int .i64 cell), vIs (.int .i64 level), vIs (.int .i64 fb)] := ⟨(fun _ _ _ h _ => h), (fun _ _ _ h _ => h), (fun _ _ _ h _ => h), (fun _ _ _ h _ => h), (fun _ _ _ h _ => h), trivial, trivial, (fun _ _ _ h _ => h), (fun _ _ _ h _ => h), (fun _ _ _ h _ => h), (fun _ _ _ h _ => h), (fun _ _ _ h _ => h), (fun _ _ _ h _ => h), (fun _ _ _ h _ => h), (fun _ _ _ h _ => h), trivial, trivial, (fun _ _ _ h _ => h), (fun _ _ _ h _ => h), (fun _ _ _ h _ => h), trivial⟩
  have HST := Lib.hid hst
  have HPM := Lib.hid hpm
  clear hst hpm
  refine wp_words (by kernel_rfl) (region_live 20 (by kernel_rfl) (by kernel_rfl) (fun W => Below wv.heap.size wv W) (relTwo wv.heap.size 9 19) [none, none, none, none, none, some 6, some 9, none, none, none, none, none, none, none, none, some 16, some 19, none, none, none] (pickD [vIs (gndV A ap g), vIs (.slice D days.length dp), vIs (choiceV true), vIs (gndV A ap g), vIs (.slice D days.length dp), vTruth wv.heap.size true g days, vWay wv.heap.size g A ap days D dp true, vIs (.int .i64 cell), vIs (.int .i64 level), vIs (.int .i64 fa), vIs (gndV A ap g), vIs (.slice D days.length dp), vIs (choiceV false), vIs (gndV A ap g), vIs (.slice D days.length dp), vTruth wv.heap.size false g days, vWay wv.heap.size g A ap days D dp false, vIs (.int .i64 cell), vIs (.int .i64 level), vIs (.int .i64 fb)]) ?_ (Below.refl _ wv).drew ?_ ?_)
  · intro listed i j v W W' hi hj hui hlj hpi hcl hk hD hR
    by_cases hab : i = 9 ∨ i = 19
    · cases hpk : pickK [none, none, none, none, none, some 6, some 9, none, none, none, none, none, none, none, none, some 16, some 19, none, none, none] j with
      | none => exact permOk_get _ _ HPM.out j hpk v W W' hD trivial
      | some k =>
        exfalso
        have hm := pickK_pairs _ 0 j k hpk
        obtain ⟨hki, hku⟩ := hk k hpk
        simp only [pairsK, List.mem_cons, Prod.mk.injEq, List.not_mem_nil, or_false, Nat.zero_add, Nat.reduceAdd] at hm
        have e96 : ∀ h : i = 9, listed.getD 6 false = true := fun h => hpi 6 (by rw [h]; kernel_rfl)
        have e19 : ∀ h : i = 19, listed.getD 16 false = true := fun h => hpi 16 (by rw [h]; kernel_rfl)
        have e1 : listed.getD 16 false = true → listed.getD 15 false = true := hcl 16 15 (by omega) (by kernel_rfl)
        have e2 : listed.getD 15 false = true → listed.getD 12 false = true := hcl 15 12 (by omega) (by kernel_rfl)
        have e3 : listed.getD 12 false = true → listed.getD 9 false = true := hcl 12 9 (by omega) (by kernel_rfl)
        have e4 : listed.getD 9 false = true → listed.getD 6 false = true := hcl 9 6 (by omega) (by kernel_rfl)
        rcases hab with rfl | rfl
        · rcases hm with ⟨rfl, rfl⟩ | ⟨rfl, rfl⟩ | ⟨rfl, rfl⟩ | ⟨rfl, rfl⟩
          · rw [e96 rfl] at hku; cases hku
          · exact hki rfl
          · rw [e3 (e2 hlj)] at hui; cases hui
          · rw [e3 (e2 (e1 hlj))] at hui; cases hui
        · rcases hm with ⟨rfl, rfl⟩ | ⟨rfl, rfl⟩ | ⟨rfl, rfl⟩ | ⟨rfl, rfl⟩
          · rw [e4 (e3 (e2 (e1 (e19 rfl))))] at hku; cases hku
          · rw [e3 (e2 (e1 (e19 rfl)))] at hku; cases hku
          · rw [e19 rfl] at hku; cases hku
          · exact hki rfl
    · have hrl : relTwo wv.heap.size 9 19 i = newer := by
        unfold relTwo
        rw [show (Nat.beq i 9 || Nat.beq i 19) = false by
          cases h1 : Nat.beq i 9
          · cases h2 : Nat.beq i 19
            · rfl
            · exact absurd (.inr (Nat.eq_of_beq_eq_true h2)) hab
          · exact absurd (.inl (Nat.eq_of_beq_eq_true h1)) hab]
      rw [hrl] at hR
      exact HST.out j v W W' hD hR
  · refine ⟨?_, ?_, ?_, ?_, ?_, ?_, ?_, ?_, ?_, ?_, ?_, ?_, ?_, ?_, ?_, ?_, ?_, ?_, ?_, ?_, trivial⟩
    · intro listed a W hun hG hO hp
      have h4 := hO.slot 4 (by kernel_rfl)
      have c0 := keep_cell g0 hG
      have c1 := keep_cell g1 hG
      have c2 := keep_cell g2 hG
      have c3 := keep_cell g3 hG
      have c4 := keep_cell g4 hG
      have c5 := keep_cell g5 hG
      refine wp_yields (v := gndV A ap g) ?_ ⟨_, rfl, rfl, newer_refl _, hG⟩
      simp [slotOf] at h4
      simp [execOp, go_sem, h4, c0, c1, c2, c3, c4, c5]
    · intro listed a W hun hG hO hp
      have h1 := hO.slot 1 (by kernel_rfl)
      refine wp_yields (v := .slice D days.length dp) ?_ ⟨_, rfl, rfl, newer_refl _, hG⟩
      simp [slotOf] at h1
      simp [execOp, go_sem, h1]
    · intro listed a W hun hG hO hp
      refine wp_enters (f := 55) (args := #[]) ?_ ((most_any _).mono ?_)
      · skip
        simp [go_sem]
      · rintro e w' ⟨rfl, hb⟩
        exact ⟨_, rfl, _, rfl, rfl, hb, hG.trans (hb.mono hG.size)⟩
    · intro listed a W hun hG hO hp
      have h4 := hO.slot 4 (by kernel_rfl)
      have c0 := keep_cell g0 hG
      have c1 := keep_cell g1 hG
      have c2 := keep_cell g2 hG
      have c3 := keep_cell g3 hG
      have c4 := keep_cell g4 hG
      have c5 := keep_cell g5 hG
      refine wp_yields (v := gndV A ap g) ?_ ⟨_, rfl, rfl, newer_refl _, hG⟩
      simp [slotOf] at h4
      simp [execOp, go_sem, h4, c0, c1, c2, c3, c4, c5]
    · intro listed a W hun hG hO hp
      have h1 := hO.slot 1 (by kernel_rfl)
      refine wp_yields (v := .slice D days.length dp) ?_ ⟨_, rfl, rfl, newer_refl _, hG⟩
      simp [slotOf] at h1
      simp [execOp, go_sem, h1]
    · intro listed a W hun hG hO hp
      have h22 : slotOf a 22 = choiceV true := hp.1
      have h23 : slotOf a 23 = gndV A ap g := hp.2.1
      have h24 : slotOf a 24 = .slice D days.length dp := hp.2.2.1
      refine wp_enters (f := 54) (args := #[choiceV true, gndV A ap g, .slice D days.length dp]) ?_ ((truth_end true g A ap days D dp W hn (by omega) ((HR.out.1.below hG).more hG.size) ((HR.out.2.below hG).more hG.size)).mono ?_)
      · simp [slotOf] at h22 h23 h24
        simp [go_sem, h22, h23, h24]
      · rintro e w' ⟨L, lp, R, rp, rfl, h2, h3, hb, h4, h5⟩
        exact ⟨_, rfl, _, rfl, ⟨L, lp, R, rp, rfl, h2, h3, fun a e => Nat.le_trans hG.size (h4 a e), fun a e => Nat.le_trans hG.size (h5 a e)⟩, hb, hG.trans (hb.mono hG.size)⟩
    · intro listed a W hun hG hO hp
      have h20 : slotOf a 20 = gndV A ap g := hp.1
      have h21 : slotOf a 21 = .slice D days.length dp := hp.2.1
      have h25 : listed.getD 6 false = false → vTruth wv.heap.size true g days (slotOf a 25) W := hp.2.2.1
      have hun : listed.getD 6 false = false := hun
      obtain ⟨L, lp, R, rp, h25, h2, h3, h4, h5⟩ := h25 hun
      refine wp_enters (f := 52) (args := #[gndV A ap g, .slice D days.length dp, truthV (endOf true g.slo g.shi) (endOf true g.klo g.khi) L g.cells.length lp R days.length rp]) ?_ ((begin_end true g A ap days D dp L lp R rp W h8 ((HR.out.1.below hG).more hG.size) ((HR.out.2.below hG).more hG.size) h2 h3).mono ?_)
      · simp [slotOf] at h20 h21 h25
        simp [go_sem, h20, h21, h25]
      · rintro e w' ⟨b, rfl, hb1, hb2, hb⟩
        exact ⟨_, rfl, _, rfl, ⟨b, L, lp, R, rp, rfl, Nat.le_trans hG.size hb1, hb2, h4, h5⟩, hb, hG.trans (hb.mono hG.size)⟩
    · intro listed a W hun hG hO hp
      have h2 := hO.slot 2 (by kernel_rfl)
      refine wp_yields (v := .int .i64 cell) ?_ ⟨_, rfl, rfl, newer_refl _, hG⟩
      simp [slotOf] at h2
      simp [execOp, go_sem, h2]
    · intro listed a W hun hG hO hp
      have h3 := hO.slot 3 (by kernel_rfl)
      refine wp_yields (v := .int .i64 level) ?_ ⟨_, rfl, rfl, newer_refl _, hG⟩
      simp [slotOf] at h3
      simp [execOp, go_sem, h3]
    · intro listed a W hun hG hO hp
      have h26 : listed.getD 9 false = false → vWay wv.heap.size g A ap days D dp true (slotOf a 26) W := hp.1
      have hun : listed.getD 9 false = false := hun
      have h27 : slotOf a 27 = .int .i64 cell := hp.2.1
      have h28 : slotOf a 28 = .int .i64 level := hp.2.2.1
      obtain ⟨lb, L, lp, R, rp, h26, hlb, hway, _, _⟩ := h26 hun
      refine wp_enters (f := 61) (args := #[.pointer (some ⟨lb, 0, none⟩), .int .i64 cell, .int .i64 level]) ?_ ((first_any _ _ lb cell level W (wayOk_end true HF.out) hway HCL.out).mono ?_)
      · simp [slotOf] at h26 h27 h28
        simp [go_sem, h26, h27, h28]
      · rintro e w' ⟨rfl, hg9⟩
        exact ⟨_, rfl, _, rfl, congrArg (Value.int .i64) HFA.out.symm, below_of_grown hg9 hlb hG.size, hG.trans (below_of_grown hg9 hlb hG.size)⟩
    · intro listed a W hun hG hO hp
      have h4 := hO.slot 4 (by kernel_rfl)
      have c0 := keep_cell g0 hG
      have c1 := keep_cell g1 hG
      have c2 := keep_cell g2 hG
      have c3 := keep_cell g3 hG
      have c4 := keep_cell g4 hG
      have c5 := keep_cell g5 hG
      refine wp_yields (v := gndV A ap g) ?_ ⟨_, rfl, rfl, newer_refl _, hG⟩
      simp [slotOf] at h4
      simp [execOp, go_sem, h4, c0, c1, c2, c3, c4, c5]
    · intro listed a W hun hG hO hp
      have h1 := hO.slot 1 (by kernel_rfl)
      refine wp_yields (v := .slice D days.length dp) ?_ ⟨_, rfl, rfl, newer_refl _, hG⟩
      simp [slotOf] at h1
      simp [execOp, go_sem, h1]
    · intro listed a W hun hG hO hp
      refine wp_enters (f := 53) (args := #[]) ?_ ((least_any _).mono ?_)
      · skip
        simp [go_sem]
      · rintro e w' ⟨rfl, hb⟩
        exact ⟨_, rfl, _, rfl, rfl, hb, hG.trans (hb.mono hG.size)⟩
    · intro listed a W hun hG hO hp
      have h4 := hO.slot 4 (by kernel_rfl)
      have c0 := keep_cell g0 hG
      have c1 := keep_cell g1 hG
      have c2 := keep_cell g2 hG
      have c3 := keep_cell g3 hG
      have c4 := keep_cell g4 hG
      have c5 := keep_cell g5 hG
      refine wp_yields (v := gndV A ap g) ?_ ⟨_, rfl, rfl, newer_refl _, hG⟩
      simp [slotOf] at h4
      simp [execOp, go_sem, h4, c0, c1, c2, c3, c4, c5]
    · intro listed a W hun hG hO hp
      have h1 := hO.slot 1 (by kernel_rfl)
      refine wp_yields (v := .slice D days.length dp) ?_ ⟨_, rfl, rfl, newer_refl _, hG⟩
      simp [slotOf] at h1
      simp [execOp, go_sem, h1]
    · intro listed a W hun hG hO hp
      have h32 : slotOf a 32 = choiceV false := hp.1
      have h33 : slotOf a 33 = gndV A ap g := hp.2.1
      have h34 : slotOf a 34 = .slice D days.length dp := hp.2.2.1
      refine wp_enters (f := 54) (args := #[choiceV false, gndV A ap g, .slice D days.length dp]) ?_ ((truth_end false g A ap days D dp W hn (by omega) ((HR.out.1.below hG).more hG.size) ((HR.out.2.below hG).more hG.size)).mono ?_)
      · simp [slotOf] at h32 h33 h34
        simp [go_sem, h32, h33, h34]
      · rintro e w' ⟨L, lp, R, rp, rfl, h2, h3, hb, h4, h5⟩
        exact ⟨_, rfl, _, rfl, ⟨L, lp, R, rp, rfl, h2, h3, fun a e => Nat.le_trans hG.size (h4 a e), fun a e => Nat.le_trans hG.size (h5 a e)⟩, hb, hG.trans (hb.mono hG.size)⟩
    · intro listed a W hun hG hO hp
      have h30 : slotOf a 30 = gndV A ap g := hp.1
      have h31 : slotOf a 31 = .slice D days.length dp := hp.2.1
      have h35 : listed.getD 16 false = false → vTruth wv.heap.size false g days (slotOf a 35) W := hp.2.2.1
      have hun : listed.getD 16 false = false := hun
      obtain ⟨L, lp, R, rp, h35, h2, h3, h4, h5⟩ := h35 hun
      refine wp_enters (f := 52) (args := #[gndV A ap g, .slice D days.length dp, truthV (endOf false g.slo g.shi) (endOf false g.klo g.khi) L g.cells.length lp R days.length rp]) ?_ ((begin_end false g A ap days D dp L lp R rp W h8 ((HR.out.1.below hG).more hG.size) ((HR.out.2.below hG).more hG.size) h2 h3).mono ?_)
      · simp [slotOf] at h30 h31 h35
        simp [go_sem, h30, h31, h35]
      · rintro e w' ⟨b, rfl, hb1, hb2, hb⟩
        exact ⟨_, rfl, _, rfl, ⟨b, L, lp, R, rp, rfl, Nat.le_trans hG.size hb1, hb2, h4, h5⟩, hb, hG.trans (hb.mono hG.size)⟩
    · intro listed a W hun hG hO hp
      have h2 := hO.slot 2 (by kernel_rfl)
      refine wp_yields (v := .int .i64 cell) ?_ ⟨_, rfl, rfl, newer_refl _, hG⟩
      simp [slotOf] at h2
      simp [execOp, go_sem, h2]
    · intro listed a W hun hG hO hp
      have h3 := hO.slot 3 (by kernel_rfl)
      refine wp_yields (v := .int .i64 level) ?_ ⟨_, rfl, rfl, newer_refl _, hG⟩
      simp [slotOf] at h3
      simp [execOp, go_sem, h3]
    · intro listed a W hun hG hO hp
      have h36 : listed.getD 19 false = false → vWay wv.heap.size g A ap days D dp false (slotOf a 36) W := hp.1
      have hun : listed.getD 19 false = false := hun
      have h37 : slotOf a 37 = .int .i64 cell := hp.2.1
      have h38 : slotOf a 38 = .int .i64 level := hp.2.2.1
      obtain ⟨lb, L, lp, R, rp, h36, hlb, hway, _, _⟩ := h36 hun
      refine wp_enters (f := 61) (args := #[.pointer (some ⟨lb, 0, none⟩), .int .i64 cell, .int .i64 level]) ?_ ((first_any _ _ lb cell level W (wayOk_end false HF.out) hway HCL.out).mono ?_)
      · simp [slotOf] at h36 h37 h38
        simp [go_sem, h36, h37, h38]
      · rintro e w' ⟨rfl, hg9⟩
        exact ⟨_, rfl, _, rfl, congrArg (Value.int .i64) HFB.out.symm, below_of_grown hg9 hlb hG.size, hG.trans (below_of_grown hg9 hlb hG.size)⟩
  · intro W hG
    rintro _ rfl _ rfl _ rfl _ rfl _ rfl _ _ _ _ _ rfl _ rfl _ rfl _ rfl _ rfl _ rfl _ rfl _ rfl _ _ _ _ _ rfl _ rfl _ rfl
    change wpList _ _ _ _ _ _
    simp only [Act.put, List.setIfInBounds_toArray, List.set_cons_zero, List.set_cons_succ, List.drop_succ_cons, List.drop_zero]
    have HX := Lib.hid (below_step HB.out hG HB.out.size)
    clear hG HR g0 g1 g2 g3 g4 g5
    go_wp2_with fail
    go_ret3
    exact ⟨rfl, HX.out⟩
end Go.Proofs.Yteonkhohloabfaa
