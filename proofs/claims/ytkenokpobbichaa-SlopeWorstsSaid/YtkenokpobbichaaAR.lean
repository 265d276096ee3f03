/- SlopeWorsts walked: it returns true, and leaves what was there. -/
import Derived.Test.YtkenokpobbichaaAQ
import Derived.Test.YtkenokpobbichaaAJ
namespace Go.Proofs.Ytkenokpobbichaa
open Go.RowKit Go.Shelf Go.Deep

theorem lawListO (l : List Int) (A : Option Addr) (cp : Nat) (w : World) (hl : l.length ≤ 1000) (hr : Row intL 1 w w.heap.size A l) : Calls Try.prog 29 #[.slice A l.length cp] w fun e w' => ∃ B c, e = .returned (.slice B l.length c) ∧ w'.ownsRow w.heap.size 3 1 (.slice B l.length c) l.length (l.flatMap intL) ∧ newer w w' := by
  have HR := Lib.hid (row_alloc hr (.cells #[] 3))
  obtain ⟨i0, hi0, hz0, hz1, hz2⟩ := info_parts info_int
  have HI := Lib.hid (And.intro hi0 (And.intro hz0 (And.intro hz1 hz2)))
  have HW := Lib.hid (Whole.made w 3 #[])
  clear hr hi0 hz0 hz1 hz2
  go_enter Try.func29, Try.ntmps29
  go_wp2_with (at_builtin; go_loud ((refine wpList_plain rfl fun K hK => wp_append_owncopy (enc := intL) (size := 1) w.heap.size (.tmp 3) (.tmp 4) 25 3 i0 (.int .i64 0) 8 Try.underlying25 HI.out.1 HI.out.2.1 HI.out.2.2.1 HI.out.2.2.2 rfl (by omega) (by omega) (fun _ => rfl) rfl w.heap.size rfl (Nat.le_refl _) HW.out l A cp rfl hl HR.out (by rw [World.size_alloc]; omega) fun B c w' hB hb hc => hK _ _ ?_); have HB := Lib.hid (And.intro hB (newer_trans (newer_allocH w (.cells #[] 3)) hb)); clear hB hb hc))
  go_ret
  exact ⟨_, _, rfl, HB.out.1, HB.out.2⟩
/-- A surface with a row of its own, as a value. -/
def vSurfO (H : Nat) (k : Int) (l : List Int) (v : Value) (W : World) : Prop := ∃ B c, v = .agg #[vi k, .slice B l.length c] ∧ W.ownsRow H 3 1 (.slice B l.length c) l.length (l.flatMap intL)
theorem vSurfO_st {H : Nat} {k : Int} {l : List Int} : ∀ v W W', vSurfO H k l v W → newer W W' → vSurfO H k l v W' := fun _ _ _ ⟨B, c, e, h⟩ hb => ⟨B, c, e, own_below h hb⟩
theorem worst_bad (s : Sm) (w : World) (hok : SmOk s w) (few : SmFew s) (hv : slopeB s.sd = false) : Calls Try.prog 25 #[smV s] w fun e w' => e = .returned (.tuple #[.agg #[vi 0, .slice none 0 0], vi 0, vi 1]) ∧ newer w w' := by
  refine (worst_any s w hok few).mono ?_
  rintro e w' ⟨h1, h2⟩
  unfold worstOut at h1
  rw [hv] at h1
  exact ⟨h1, h2⟩
theorem worst_nil (s : Sm) (w : World) (hok : SmOk s w) (few : SmFew s) (hv : slopeB s.sd = true) (hw : worstS s.sd = none) : Calls Try.prog 25 #[smV s] w fun e w' => e = .returned (.tuple #[.agg #[vi 0, .slice none 0 0], vi 0, vi 7]) ∧ newer w w' := by
  refine (worst_any s w hok few).mono ?_
  rintro e w' ⟨h1, h2⟩
  unfold worstOut at h1
  rw [hv, hw] at h1
  exact ⟨h1, h2⟩
theorem lo_none {s : Sd} (hs : SdOk s) (hw : worstS s = none) : lowestK (refLo s) (allR s.n s.cols.length s.K) (-1) < 0 := by
  rw [lowest_lo]
  exact (lowest_worst (hd_ok hs false)).1 hw
theorem lo_some {s : Sd} (hs : SdOk s) {k : Nat} {l : List Nat} {v : Int} (hw : worstS s = some ((k, l), v)) : lowestK (refLo s) (allR s.n s.cols.length s.K) (-1) = v ∧ 0 ≤ v ∧ SurfB s.n s.cols.length s.K k l ∧ refE (bedsL s.cols k l) false = v := by
  have h1 := (lowest_worst (hd_ok hs false)).2 _ _ hw
  have h2 := worst_some (hd_ok hs false) hw
  refine ⟨by rw [lowest_lo]; exact h1.1, h1.2, h2.1, ?_⟩
  rw [refE_sum]
  unfold refF
  rw [if_neg (by omega)]
  exact h2.2.2.1
set_option maxRecDepth 100000 in
set_option maxHeartbeats 4000000 in
theorem slopeWorsts_walk (s : Sm) (w : World) (hok : SmOk s w) : Calls Try.prog 4 #[smV s] w fun e w' => e = .returned (.bool true) ∧ newer w w' := by
  have H0 := Lib.hid (And.intro (newer_allocH w (.cells (smC s) 24)) (Whole.made w 24 (smC s)))
  have HOK := Lib.hid hok
  have HFE := Lib.hid (few_any s _ (hok.next H0.out.1))
  have x0 := H0.out.2.at 0 (v := .slice s.a s.cs.length s.c) rfl
  have x1 := H0.out.2.at 1 (v := vi s.least) rfl
  clear hok
  cases hf : fewB s.sd with
  | false =>
    rw [hf] at HFE
    clear hf
    go_enter Try.func4, Try.ntmps4
    go_wp2_with fail
    refine (HFE.out).mono ?_
    rintro e w1 ⟨rfl, hb⟩
    have H1 := Lib.hid (newer_trans H0.out.1 hb)
    clear x0 x1 hb H0 HFE
    go_wp2_with fail
    refine (wakes_any _).mono ?_
    rintro e wk ⟨rfl, hb⟩
    have HK := Lib.hid (newer_trans H1.out hb)
    clear hb
    go_wp2_with fail
    go_ret
    exact ⟨rfl, HK.out⟩
  | true =>
    rw [hf] at HFE
    obtain ⟨few, hc15, hb8⟩ := thinS_few (few_thin hf)
    have HFW := Lib.hid few
    have HRI : Hid (∀ W, newer w W → Calls Try.prog 26 #[smV s] W fun e w' => e = .returned (.bool (slopeB s.sd)) ∧ newer W w') := Lib.hid (fun W hW => right_any s W (HOK.out.next hW) few)
    clear hf hc15 hb8
    cases hv : slopeB s.sd with
    | false =>
      rw [hv] at HRI
      have HW : Hid (∀ (s2 : Sm) W, s2.sd = s.sd → SmOk s2 W → Calls Try.prog 25 #[smV s2] W fun e w' => e = .returned (.tuple #[.agg #[vi 0, .slice none 0 0], vi 0, vi 1]) ∧ newer W w') := Lib.hid (fun s2 W h1 h2 => worst_bad s2 W h2 (few_sd h1 few) (by rw [h1]; exact hv))
      clear few hv
      go_enter Try.func4, Try.ntmps4
      go_wp2_with fail
      refine (HFE.out).mono ?_
      rintro e w1 ⟨rfl, hb⟩
      have H1 := Lib.hid (And.intro (newer_trans H0.out.1 hb) (H0.out.2.below hb H0.out.2.lt))
      clear x0 x1 hb H0 HFE
      have x0 := H1.out.2.at 0 (v := .slice s.a s.cs.length s.c) rfl
      have x1 := H1.out.2.at 1 (v := vi s.least) rfl
      go_wp2_with fail
      refine (lawSlope s w1 (HOK.out.next H1.out.1) HFW.out).mono ?_
      rintro e w2 ⟨s2, rfl, hd, hs2, hb⟩
      have H2 := Lib.hid (And.intro (newer_trans H1.out.1 hb) (H1.out.2.below hb H1.out.2.lt))
      have HWW := Lib.hid (HW.out s2 w2 hd hs2)
      clear x0 x1 hb H1 hd hs2 HW
      have x0 := H2.out.2.at 0 (v := .slice s.a s.cs.length s.c) rfl
      have x1 := H2.out.2.at 1 (v := vi s.least) rfl
      go_wp2_with fail
      refine (HWW.out).mono ?_
      rintro e w5 ⟨rfl, hb⟩
      have e6 := newer_allocH w5 (.cells #[vi 0, .slice none 0 0] 39)
      have H5 := Lib.hid (And.intro (newer_trans (newer_trans H2.out.1 hb) e6) (And.intro ((H2.out.2.below hb H2.out.2.lt).below e6 ((H2.out.2.below hb H2.out.2.lt).lt)) (Whole.made w5 39 #[vi 0, .slice none 0 0])))

      clear x0 x1 hb e6 H2 HWW
      have x0 := H5.out.2.1.at 0 (v := .slice s.a s.cs.length s.c) rfl
      have x1 := H5.out.2.1.at 1 (v := vi s.least) rfl
      go_wp2_with fail
      obtain ⟨ub, hub⟩ : ∃ ub, ub = w5.heap.size := ⟨_, rfl⟩
      rw [← hub] at H5 ⊢
      clear hub
      refine (HRI.out _ H5.out.1).mono ?_
      rintro e w6 ⟨rfl, hb⟩
      have H6 := Lib.hid (And.intro (newer_trans H5.out.1 hb) (And.intro (H5.out.2.1.below hb H5.out.2.1.lt) (H5.out.2.2.below hb H5.out.2.2.lt)))
      clear x0 x1 hb H5
      have x0 := H6.out.2.1.at 0 (v := .slice s.a s.cs.length s.c) rfl
      have x1 := H6.out.2.1.at 1 (v := vi s.least) rfl
      have u0 := H6.out.2.2.at 0 (v := vi 0) rfl
      have u1 := H6.out.2.2.at 1 (v := .slice none 0 0) rfl
      go_wp2_with fail
      refine (wakes_any _).mono ?_
      rintro e wk ⟨rfl, hb⟩
      have HK := Lib.hid (newer_trans H6.out.1 hb)
      clear hb
      go_wp2_with fail
      go_ret
      exact ⟨rfl, HK.out⟩
    | true =>
      rw [hv] at HRI
      have hs := sdOk_iff.1 hv
      have HAL : Hid (∀ W, newer w W → Calls Try.prog 28 #[smV s] W fun e w' => surfOut W.heap.size none ((allR s.sd.n s.cs.length s.sd.K).map suP) e w' ∧ newer W w') := Lib.hid (fun W hW => all_any s W (HOK.out.next hW) hs)
      obtain ⟨lo, hlo⟩ : ∃ lo, lo = lowestK (refLo s.sd) (allR s.sd.n s.cs.length s.sd.K) (-1) := ⟨_, rfl⟩
      have hK1 : 1 ≤ s.sd.K := (hd_ok hs false).K0
      have hcl : s.cs.length ≤ 12 := by have h1 := hs.cols; rw [sd_len] at h1; omega
      have HLW : Hid (∀ (us : List Su) A c W, newer w W → Row suL 2 W W.heap.size A us → (∀ x ∈ us, SuOk x W) → us.map suK = (allR s.sd.n s.cs.length s.sd.K).map suP → Calls Try.prog 27 #[smV s, .slice A us.length c] W fun e w' => e = .returned (vi lo) ∧ newer W w') := Lib.hid (fun us A c W hW hr hi he => by
        rw [hlo]
        refine lowest_any s us A c (allR s.sd.n s.cs.length s.sd.K) W (HOK.out.next hW) hs hr hi he (fun u hu => (all_mem hK1).1 hu) ?_
        have h1 := congrArg List.length he
        rw [List.length_map, List.length_map] at h1
        have h2 := allTo_few (K := s.sd.K) (i := s.cs.length) hs.beds.2 hcl hcl
        have h3 : (allR s.sd.n s.cs.length s.sd.K).length = (allTo s.sd.n s.cs.length s.sd.K s.cs.length).length := rfl
        omega)
      cases hw : worstS s.sd with
      | none =>
        have hl : lo < 0 := by
          have h := lo_none hs hw
          rw [sd_len] at h
          rw [hlo]
          exact h
        have HW : Hid (∀ (s2 : Sm) W, s2.sd = s.sd → SmOk s2 W → Calls Try.prog 25 #[smV s2] W fun e w' => e = .returned (.tuple #[.agg #[vi 0, .slice none 0 0], vi 0, vi 7]) ∧ newer W w') := Lib.hid (fun s2 W h1 h2 => worst_nil s2 W h2 (few_sd h1 few) (by rw [h1]; exact hv) (by rw [h1]; exact hw))
        clear few hv hs hlo hK1 hcl hw
        go_enter Try.func4, Try.ntmps4
        go_wp2_with fail
        refine (HFE.out).mono ?_
        rintro e w1 ⟨rfl, hb⟩
        have H1 := Lib.hid (And.intro (newer_trans H0.out.1 hb) (H0.out.2.below hb H0.out.2.lt))
        clear x0 x1 hb H0 HFE
        have x0 := H1.out.2.at 0 (v := .slice s.a s.cs.length s.c) rfl
        have x1 := H1.out.2.at 1 (v := vi s.least) rfl
        go_wp2_with fail
        refine (lawSlope s w1 (HOK.out.next H1.out.1) HFW.out).mono ?_
        rintro e w2 ⟨s2, rfl, hd, hs2, hb⟩
        have H2 := Lib.hid (And.intro (newer_trans H1.out.1 hb) (H1.out.2.below hb H1.out.2.lt))
        have HWW := Lib.hid (HW.out s2 w2 hd hs2)
        clear x0 x1 hb H1 hd hs2 HW
        have x0 := H2.out.2.at 0 (v := .slice s.a s.cs.length s.c) rfl
        have x1 := H2.out.2.at 1 (v := vi s.least) rfl
        go_wp2_with fail
        refine (HWW.out).mono ?_
        rintro e w5 ⟨rfl, hb⟩
        have e6 := newer_allocH w5 (.cells #[vi 0, .slice none 0 0] 39)
        have H5 := Lib.hid (And.intro (newer_trans (newer_trans H2.out.1 hb) e6) (And.intro ((H2.out.2.below hb H2.out.2.lt).below e6 ((H2.out.2.below hb H2.out.2.lt).lt)) (Whole.made w5 39 #[vi 0, .slice none 0 0])))

        clear x0 x1 hb e6 H2 HWW
        have x0 := H5.out.2.1.at 0 (v := .slice s.a s.cs.length s.c) rfl
        have x1 := H5.out.2.1.at 1 (v := vi s.least) rfl
        go_wp2_with fail
        obtain ⟨ub, hub⟩ : ∃ ub, ub = w5.heap.size := ⟨_, rfl⟩
        rw [← hub] at H5 ⊢
        clear hub
        refine (HRI.out _ H5.out.1).mono ?_
        rintro e w6 ⟨rfl, hb⟩
        have H6 := Lib.hid (And.intro (newer_trans H5.out.1 hb) (And.intro (H5.out.2.1.below hb H5.out.2.1.lt) (H5.out.2.2.below hb H5.out.2.2.lt)))
        clear x0 x1 hb H5
        have x0 := H6.out.2.1.at 0 (v := .slice s.a s.cs.length s.c) rfl
        have x1 := H6.out.2.1.at 1 (v := vi s.least) rfl
        go_upto_region 6 with fail
        refine wp_words (by kernel_rfl) (region_told 4 (by kernel_rfl) (by kernel_rfl) (fun W => Below w6.heap.size w6 W) newer (pickD [vIs (smV s), vIs (smV s), vSurfs 0 ((allR s.sd.n s.cs.length s.sd.K).map suP), vIs (vi lo)]) (fun h k => newer_trans h k) (pickD_stable _ ⟨vIs_st, vIs_st, vSurfs_st, vIs_st, trivial⟩) (Below.refl _ w6).drew (Below.refl _ _) ?_ ?_)
        · refine ⟨?_, ?_, ?_, ?_, trivial⟩
          · intro a W hG hR hO hp
            have h1 := hO.slot 1 (by kernel_rfl)
            have c0 := keep_cell x0 hG
            have c1 := keep_cell x1 hG
            refine wp_yields (v := smV s) ?_ ⟨_, rfl, rfl, Below.refl _ _, hG⟩
            simp [slotOf] at h1
            simp [execOp, go_sem, h1, c0, c1]
          · intro a W hG hR hO hp
            have h1 := hO.slot 1 (by kernel_rfl)
            have c0 := keep_cell x0 hG
            have c1 := keep_cell x1 hG
            refine wp_yields (v := smV s) ?_ ⟨_, rfl, rfl, Below.refl _ _, hG⟩
            simp [slotOf] at h1
            simp [execOp, go_sem, h1, c0, c1]
          · intro a W hG hR hO hp
            have h43 : slotOf a 43 = smV s := hp.1
            refine wp_enters (f := 28) (args := #[smV s]) ?_ ((HAL.out W (newer_trans H6.out.1 hG)).mono ?_)
            · simp [slotOf] at h43
              simp [go_sem, h43]
            · rintro e w' ⟨⟨us, A, c, rfl, hr, hi, he⟩, hb⟩
              exact ⟨_, rfl, _, rfl, ⟨us, A, c, rfl, hr, hi.high (Nat.zero_le _) (fun ad h => by cases h), he⟩, hb, below_next hG hb⟩
          · intro a W hG hR hO hp
            have h42 : slotOf a 42 = smV s := hp.1
            have h44 := hp.2.1
            obtain ⟨us, A, c, h44, hr, hi, he⟩ := h44
            refine wp_enters (f := 27) (args := #[smV s, .slice A us.length c]) ?_ ((HLW.out us A c W (newer_trans H6.out.1 hG) hr hi.ok he).mono ?_)
            · simp [slotOf] at h42 h44
              simp [go_sem, h42, h44]
            · rintro e w' ⟨rfl, hb⟩
              exact ⟨_, rfl, _, rfl, rfl, hb, below_next hG hb⟩
        · intro w7 hG hR
          rintro _ rfl _ rfl _ - _ rfl
          change wpList _ _ _ _ _ _
          simp only [Act.put, List.setIfInBounds_toArray, List.set_cons_zero, List.set_cons_succ, List.drop_succ_cons, List.drop_zero]
          have H7 := Lib.hid (And.intro (newer_trans H6.out.1 hG) (H6.out.2.2.below hG H6.out.2.2.lt))
          clear hG hR x0 x1 H6
          have u0 := H7.out.2.at 0 (v := vi 0) rfl
          have u1 := H7.out.2.at 1 (v := .slice none 0 0) rfl
          go_wp2_with fail
          refine (wakes_any _).mono ?_
          rintro e wk ⟨rfl, hb⟩
          have HK := Lib.hid (newer_trans H7.out.1 hb)
          clear hb
          go_wp2_with fail
          go_ret
          exact ⟨rfl, HK.out⟩
      | some q =>
        obtain ⟨⟨k, l⟩, v⟩ := q
        have h4 := lo_some hs hw
        rw [sd_len, ← hlo] at h4
        obtain ⟨rfl, hv0, hsf, hre⟩ := h4
        obtain ⟨LI, hLI⟩ : ∃ LI, LI = l.map (fun x : Nat => (x : Int)) := ⟨_, rfl⟩
        have hll : LI.length ≤ 12 := by have h1 := hsf.2.1; rw [hLI, List.length_map]; omega
        have HLL := Lib.hid hll
        have hlli : (LI.length : Int) ≤ 12 := by omega
        have hl : ¬ lo < 0 := by omega
        obtain ⟨g1, hg1⟩ : ∃ g, g = refE (bedsL s.sd.cols k l) true := ⟨_, rfl⟩
        have HIS : Hid (∀ (u : Su) W, newer w W → u.frm = (k : Int) → u.beds = LI → SuOk u W → Calls Try.prog 30 #[smV s, suV u] W fun e w' => e = .returned (.bool true) ∧ newer W w') := Lib.hid (fun u W hW h1 h2 h3 => by
          have h := isSurface_any s u W (HOK.out.next hW) h3 hs (by rw [h2]; omega)
          rw [h1, h2, hLI, (surfB_nat hs).2 (by rw [sd_len]; exact hsf)] at h
          exact h)
        have HSP : Hid (∀ (u : Su) W, newer w W → u.frm = (k : Int) → u.beds = LI → SuOk u W → Calls Try.prog 22 #[smV s, suV u] W fun e w' => e = .returned (.agg #[vi lo, vi g1]) ∧ newer W w') := Lib.hid (fun u W hW h1 h2 h3 => by
          have h := refSpan_any s u k l W (HOK.out.next hW) hs h3 h1 (by rw [h2, hLI]) hsf
          rw [hre, ← hg1] at h
          exact h)
        have HW : Hid (∀ (s2 : Sm) W, s2.sd = s.sd → SmOk s2 W → Calls Try.prog 25 #[smV s2] W fun e w' => ∃ A c, e = .returned (.tuple #[.agg #[vi k, .slice A LI.length c], vi lo, vi 0]) ∧ Row intL 1 w' w'.heap.size A LI ∧ newer W w') := Lib.hid (fun s2 W h1 h2 => by
          refine (worst_says s2 W h2 (few_sd h1 few) (by rw [h1]; exact hv) (by rw [h1]; exact hw)).mono ?_
          rintro e w' ⟨A, c, rfl, h5, h6⟩
          have e1 : (l.map fun x : Nat => vi x) = LI.flatMap intL := by rw [hLI, ← map_intL, List.map_map]; rfl
          have e2 : LI.length = l.length := by rw [hLI, List.length_map]
          rw [e1, ← e2] at h5
          exact ⟨A, c, by rw [e2], row_of_own (by omega) (fun _ => rfl) h5, h6⟩)
        clear few hv hs hlo hK1 hcl hw hLI hll hsf hre hv0 hg1
        go_enter Try.func4, Try.ntmps4
        go_wp2_with fail
        refine (HFE.out).mono ?_
        rintro e w1 ⟨rfl, hb⟩
        have H1 := Lib.hid (And.intro (newer_trans H0.out.1 hb) (H0.out.2.below hb H0.out.2.lt))
        clear x0 x1 hb H0 HFE
        have x0 := H1.out.2.at 0 (v := .slice s.a s.cs.length s.c) rfl
        have x1 := H1.out.2.at 1 (v := vi s.least) rfl
        go_wp2_with fail
        refine (lawSlope s w1 (HOK.out.next H1.out.1) HFW.out).mono ?_
        rintro e w2 ⟨s2, rfl, hd, hs2, hb⟩
        have H2 := Lib.hid (And.intro (newer_trans H1.out.1 hb) (H1.out.2.below hb H1.out.2.lt))
        have HWW := Lib.hid (HW.out s2 w2 hd hs2)
        clear x0 x1 hb H1 hd hs2 HW
        have x0 := H2.out.2.at 0 (v := .slice s.a s.cs.length s.c) rfl
        have x1 := H2.out.2.at 1 (v := vi s.least) rfl
        go_wp2_with fail
        refine (HWW.out).mono ?_
        rintro e w5 ⟨A1, d1, rfl, hr, hb⟩
        have e6 := newer_allocH w5 (.cells #[vi k, .slice A1 LI.length d1] 39)
        have H5 := Lib.hid (And.intro (newer_trans (newer_trans H2.out.1 hb) e6) (And.intro ((H2.out.2.below hb H2.out.2.lt).below e6 ((H2.out.2.below hb H2.out.2.lt).lt)) (Whole.made w5 39 #[vi k, .slice A1 LI.length d1])))
        have HRW := Lib.hid ((hr.below e6).more e6.size)
        clear hr
        clear x0 x1 hb e6 H2 HWW
        have x0 := H5.out.2.1.at 0 (v := .slice s.a s.cs.length s.c) rfl
        have x1 := H5.out.2.1.at 1 (v := vi s.least) rfl
        go_wp2_with fail
        obtain ⟨ub, hub⟩ : ∃ ub, ub = w5.heap.size := ⟨_, rfl⟩
        rw [← hub] at H5 ⊢
        clear hub
        refine (HRI.out _ H5.out.1).mono ?_
        rintro e w6 ⟨rfl, hb⟩
        have H6 := Lib.hid (And.intro (newer_trans H5.out.1 hb) (And.intro (H5.out.2.1.below hb H5.out.2.1.lt) (H5.out.2.2.below hb H5.out.2.2.lt)))
        have HRW2 := Lib.hid ((HRW.out.below hb).more hb.size)
        clear HRW
        clear x0 x1 hb H5
        have x0 := H6.out.2.1.at 0 (v := .slice s.a s.cs.length s.c) rfl
        have x1 := H6.out.2.1.at 1 (v := vi s.least) rfl
        go_upto_region 6 with fail
        refine wp_words (by kernel_rfl) (region_told 4 (by kernel_rfl) (by kernel_rfl) (fun W => Below w6.heap.size w6 W) newer (pickD [vIs (smV s), vIs (smV s), vSurfs 0 ((allR s.sd.n s.cs.length s.sd.K).map suP), vIs (vi lo)]) (fun h k => newer_trans h k) (pickD_stable _ ⟨vIs_st, vIs_st, vSurfs_st, vIs_st, trivial⟩) (Below.refl _ w6).drew (Below.refl _ _) ?_ ?_)
        · refine ⟨?_, ?_, ?_, ?_, trivial⟩
          · intro a W hG hR hO hp
            have h1 := hO.slot 1 (by kernel_rfl)
            have c0 := keep_cell x0 hG
            have c1 := keep_cell x1 hG
            refine wp_yields (v := smV s) ?_ ⟨_, rfl, rfl, Below.refl _ _, hG⟩
            simp [slotOf] at h1
            simp [execOp, go_sem, h1, c0, c1]
          · intro a W hG hR hO hp
            have h1 := hO.slot 1 (by kernel_rfl)
            have c0 := keep_cell x0 hG
            have c1 := keep_cell x1 hG
            refine wp_yields (v := smV s) ?_ ⟨_, rfl, rfl, Below.refl _ _, hG⟩
            simp [slotOf] at h1
            simp [execOp, go_sem, h1, c0, c1]
          · intro a W hG hR hO hp
            have h43 : slotOf a 43 = smV s := hp.1
            refine wp_enters (f := 28) (args := #[smV s]) ?_ ((HAL.out W (newer_trans H6.out.1 hG)).mono ?_)
            · simp [slotOf] at h43
              simp [go_sem, h43]
            · rintro e w' ⟨⟨us, A, c, rfl, hr, hi, he⟩, hb⟩
              exact ⟨_, rfl, _, rfl, ⟨us, A, c, rfl, hr, hi.high (Nat.zero_le _) (fun ad h => by cases h), he⟩, hb, below_next hG hb⟩
          · intro a W hG hR hO hp
            have h42 : slotOf a 42 = smV s := hp.1
            have h44 := hp.2.1
            obtain ⟨us, A, c, h44, hr, hi, he⟩ := h44
            refine wp_enters (f := 27) (args := #[smV s, .slice A us.length c]) ?_ ((HLW.out us A c W (newer_trans H6.out.1 hG) hr hi.ok he).mono ?_)
            · simp [slotOf] at h42 h44
              simp [go_sem, h42, h44]
            · rintro e w' ⟨rfl, hb⟩
              exact ⟨_, rfl, _, rfl, rfl, hb, below_next hG hb⟩
        · intro w7 hG hR
          rintro _ rfl _ rfl _ - _ rfl
          change wpList _ _ _ _ _ _
          simp only [Act.put, List.setIfInBounds_toArray, List.set_cons_zero, List.set_cons_succ, List.drop_succ_cons, List.drop_zero]
          have H7 := Lib.hid (And.intro (newer_trans H6.out.1 hG) (And.intro (H6.out.2.1.below hG H6.out.2.1.lt) (And.intro (H6.out.2.2.below hG H6.out.2.2.lt) ((HRW2.out.below hG).more hG.size))))
          clear hG hR x0 x1 H6 HRW2
          have u0 := H7.out.2.2.1.at 0 (v := vi k) rfl
          have u1 := H7.out.2.2.1.at 1 (v := .slice A1 LI.length d1) rfl
          go_upto_region 9 with fail
          refine wp_words (by kernel_rfl) (region_told 7 (by kernel_rfl) (by kernel_rfl) (fun W => Below w7.heap.size w7 W) newer (pickD [vIs (.pointer (some ⟨ub, 0, none⟩)), vIs (vi k), vIs (.pointer (some ⟨ub, 1, none⟩)), vIs (.slice A1 LI.length d1), vOwn w7.heap.size 3 1 intL LI, vSurfO w7.heap.size k LI, vNew w7.heap.size 27 #[vi 0, .slice none 0 0]]) (fun h k => newer_trans h k) (pickD_stable _ ⟨vIs_st, vIs_st, vIs_st, vIs_st, vOwn_st, vSurfO_st, vNew_st, trivial⟩) (Below.refl _ w7).drew (Below.refl _ _) ?_ ?_)
          · refine ⟨?_, ?_, ?_, ?_, ?_, ?_, ?_, trivial⟩
            · intro a W hG hR hO hp
              have h3 := hO.slot 3 (by kernel_rfl)
              refine wp_yields (v := .pointer (some ⟨ub, 0, none⟩)) ?_ ⟨_, rfl, rfl, Below.refl _ _, hG⟩
              simp [slotOf] at h3
              simp [execOp, go_sem, h3]
            · intro a W hG hR hO hp
              have h68 : slotOf a 68 = .pointer (some ⟨ub, 0, none⟩) := hp.1
              have c0 := keep_cell u0 hG
              refine wp_yields (v := vi k) ?_ ⟨_, rfl, rfl, Below.refl _ _, hG⟩
              simp [slotOf] at h68
              simp [execOp, go_sem, h68, c0]
            · intro a W hG hR hO hp
              have h3 := hO.slot 3 (by kernel_rfl)
              refine wp_yields (v := .pointer (some ⟨ub, 1, none⟩)) ?_ ⟨_, rfl, rfl, Below.refl _ _, hG⟩
              simp [slotOf] at h3
              simp [execOp, go_sem, h3]
            · intro a W hG hR hO hp
              have h70 : slotOf a 70 = .pointer (some ⟨ub, 1, none⟩) := hp.1
              have c0 := keep_cell u1 hG
              refine wp_yields (v := .slice A1 LI.length d1) ?_ ⟨_, rfl, rfl, Below.refl _ _, hG⟩
              simp [slotOf] at h70
              simp [execOp, go_sem, h70, c0]
            · intro a W hG hR hO hp
              have h71 : slotOf a 71 = .slice A1 LI.length d1 := hp.1
              refine wp_enters (f := 29) (args := #[.slice A1 LI.length d1]) ?_ ((lawListO LI A1 d1 W (by have := HLL.out; omega) ((H7.out.2.2.2.below hG).more hG.size)).mono ?_)
              · simp [slotOf] at h71
                simp [go_sem, h71]
              · rintro e w' ⟨B, c, rfl, ho, hb⟩
                exact ⟨_, rfl, _, rfl, ⟨B, c, rfl, own_more ho hG.size⟩, hb, below_next hG hb⟩
            · intro a W hG hR hO hp
              have h69 : slotOf a 69 = vi k := hp.1
              have h72 := hp.2.1
              obtain ⟨B, c, h72, ho⟩ := h72
              refine wp_yields (v := .agg #[vi k, .slice B LI.length c]) ?_ ⟨_, rfl, ⟨B, c, rfl, ho⟩, Below.refl _ _, hG⟩
              simp [slotOf] at h69 h72
              simp [execOp, go_sem, h69, h72]
            · intro a W hG hR hO hp
              refine wp_makes (v := .pointer (some ⟨W.heap.size, 0, none⟩)) (W' := W.alloc (.cells #[vi 0, .slice none 0 0] 27)) ?_ ⟨_, rfl, ⟨_, rfl, hG.size, Whole.made _ _ _⟩, newer_allocH _ _, below_next hG (newer_allocH _ _)⟩
              skip
              simp [execOp, go_sem]
          · intro w8 hG hR
            rintro _ rfl _ rfl _ rfl _ rfl _ - _ ⟨B, c9, rfl, hown⟩ _ ⟨fb, rfl, hfb, hwf⟩
            change wpList _ _ _ _ _ _
            simp only [Act.put, List.setIfInBounds_toArray, List.set_cons_zero, List.set_cons_succ, List.drop_succ_cons, List.drop_zero]
            have b0 := hwf.at 0 rfl
            have b1 := hwf.at 1 rfl
            have f0 := hwf.free 0
            have f1 := hwf.free 1
            have hne := own_ne hown hwf (by decide)
            have hG4 := (hG.setCell (p := ⟨fb, 0, none⟩) hfb (vi k)).setCell (p := ⟨fb, 1, none⟩) hfb (.slice B LI.length c9)
            have ho4 : ((w8.setCell ⟨fb, 0, none⟩ (vi k)).setCell ⟨fb, 1, none⟩ (.slice B LI.length c9)).ownsRow w7.heap.size 3 1 (.slice B LI.length c9) LI.length (LI.flatMap intL) := own_set (own_set hown hne _) hne _
            have hrow := row_of_own (enc := intL) (size := 1) (by omega) (fun _ => rfl) ho4
            have hw4 : Whole ((w8.setCell ⟨fb, 0, none⟩ (vi k)).setCell ⟨fb, 1, none⟩ (.slice B LI.length c9)) fb 27 #[vi k, .slice B LI.length c9] := (hwf.set 0 _).set 1 _
            have H8 := Lib.hid (And.intro (newer_trans H7.out.1 hG4) (And.intro (H7.out.2.1.below hG4 H7.out.2.1.lt) (And.intro hw4 hrow)))
            clear hG hR u0 u1 H7 hown hwf hne hG4 ho4 hrow hw4
            have x0 := H8.out.2.1.at 0 (v := .slice s.a s.cs.length s.c) rfl
            have x1 := H8.out.2.1.at 1 (v := vi s.least) rfl
            have z0 := H8.out.2.2.1.at 0 (v := vi k) rfl
            have z1 := H8.out.2.2.1.at 1 (v := .slice B LI.length c9) rfl
            go_wp2_with fail
            refine (HIS.out ⟨k, LI, B, c9⟩ _ H8.out.1 rfl rfl H8.out.2.2.2).mono ?_
            rintro e w9 ⟨rfl, hb⟩
            have H9 := Lib.hid (And.intro (newer_trans H8.out.1 hb) (And.intro (H8.out.2.1.below hb H8.out.2.1.lt) (And.intro (H8.out.2.2.1.below hb H8.out.2.2.1.lt) ((H8.out.2.2.2.below hb).more hb.size))))
            clear hb b0 b1 f0 f1 x0 x1 z0 z1 H8
            have x0 := H9.out.2.1.at 0 (v := .slice s.a s.cs.length s.c) rfl
            have x1 := H9.out.2.1.at 1 (v := vi s.least) rfl
            have z0 := H9.out.2.2.1.at 0 (v := vi k) rfl
            have z1 := H9.out.2.2.1.at 1 (v := .slice B LI.length c9) rfl
            go_wp2_with fail
            refine (HSP.out ⟨k, LI, B, c9⟩ _ H9.out.1 rfl rfl H9.out.2.2.2).mono ?_
            rintro e w10 ⟨rfl, hb⟩
            have H10 := Lib.hid (newer_trans H9.out.1 hb)
            clear hb x0 x1 z0 z1 H9
            go_wp2_with fail
            refine (wakes_any _).mono ?_
            rintro e wk ⟨rfl, hb⟩
            have HK := Lib.hid (newer_trans H10.out hb)
            clear hb
            go_wp2_with fail
            go_ret
            exact ⟨rfl, HK.out⟩

end Go.Proofs.Ytkenokpobbichaa
